/- VmNew of the reference, of functions that are verified. -/
import Derived.Test.YtlkdlcpfcacigaaNewYH
namespace Go.Proofs.Ytlkdlcpfcacigaa
open Go.RowKit
set_option linter.unusedVariables false
set_option linter.unusedSimpArgs false

set_option maxHeartbeats 6400000 in
set_option maxRecDepth 100000 in
theorem sVmNew_yes {B : Nat} (v : Value) (fs : List F2) (half : Nat) (each : Bool) (w : World) (hr : RdF B w v fs) (hin : ∀ x ∈ fs, fnIn x) (hvb : verB fs = true) (h1 : 1 ≤ half) (h2 : half ≤ 3000) :
    Calls Try.prog 5 #[v, .int .i64 half, .bool each] w fun e w' => ∃ fv hv sv cv, e = .returned (.tuple #[.agg #[fv, hv, .int .i64 half, .int .i64 0, .int .i64 0, sv, cv, .slice none 0 0, .int .i64 0, .bool each], .bool true]) ∧ NewR0 (w.heap.size + 1) w' fv hv sv cv fs half ∧ Below w.heap.size w w' := by
  have hsm := ver_small hvb
  have hinh : inB (half : Int) 1 3000 = true := inB_true.2 ⟨by omega, by omega⟩
  have hnw : newWords (half : Int) = List.replicate (2 * half) 0 := by unfold newWords; rw [if_pos hinh]; simp
  have HH := Lib.hid (fun (W : World) => (show Calls Try.prog 14 #[.int .i64 half] W fun e w' => ∃ v, e = .returned (.tuple #[.agg #[v, .int .i64 half, .int .i64 0, .int .i64 0], .bool true]) ∧
      w'.ownsRow W.heap.size 3 1 v (2 * half) ((List.replicate (2 * half) 0).map (Value.int .i64)) ∧ Below W.heap.size W w' from by
    have := sHeapNew_any half W
    rw [hinh, hnw, List.length_replicate] at this
    simpa using this))
  have HR := Lib.hid (fun (W : World) (hb : Below w.heap.size w W) => l13Copy_any v fs W (hr.below' hb) (by omega) (by omega))
  have HV := Lib.hid (fun (W : World) (hb : Below w.heap.size w W) => (by have := sVerify_any v fs W (hr.below' hb) hin (by omega); rw [hvb] at this; exact this : Calls Try.prog 15 #[v] W fun e w' => e = .returned (.bool true) ∧ Below W.heap.size W w'))
  have HO := Lib.hid (fun (fv hv sv cv : Value) (W : World) (N : NewR0 (w.heap.size + 1) W fv hv sv cv fs half) => (by
    have := sVmOk_any fv hv sv cv (.slice none 0 0) (newL fs half each) W (N.rdV each) (new_in fs half each hin h2) (new_sz fs half each hvb h2)
    rw [new_ok fs half each hvb h1 h2] at this
    exact this : Calls Try.prog 17 #[.agg #[fv, hv, .int .i64 half, .int .i64 0, .int .i64 0, sv, cv, .slice none 0 0, .int .i64 0, .bool each]] W fun e w' => e = .returned (.bool true) ∧ Below W.heap.size W w'))
  obtain ⟨fa, fc, rfl⟩ := hr.form
  clear hr hin hnw hinh hsm hvb
  go_enter Try.func5, Try.ntmps5
  go_wp2_with fail
  generalize hxx : w.alloc _ = x0
  obtain ⟨bx, k6⟩ := Bx.alloc hxx
  have sx : x0.heap.size = w.heap.size + 1 := by rw [← hxx, World.size_alloc]
  clear hxx
  refine (HH.out _).mono ?_
  rintro e w1 ⟨v1, rfl, o1, b1⟩
  obtain ⟨g1, p1, rfl, hg1, hg2⟩ := own_slice o1 (by omega)
  have zx1 := b1.size
  replace k6 := k6.below b1 k6.1
  replace bx := bx.trans (b1.mono bx.size)
  replace o1 := own_base o1 (show w.heap.size + 1 ≤ x0.heap.size by omega)
  clear b1
  go_wp2_with fail
  generalize hxx : w1.alloc _ = w2
  obtain ⟨b2, k8⟩ := Bx.alloc hxx
  clear hxx
  have zx2 := b2.size
  replace k6 := k6.below b2 k6.1
  replace bx := bx.trans (b2.mono bx.size)
  replace o1 := own_below o1 b2 (own_lt o1)
  refine (HV.out _ bx).mono ?_
  rintro e w3 ⟨rfl, b3⟩
  have zx3 := b3.size
  replace k6 := k6.below b3 k6.1
  replace k8 := k8.below b3 k8.1
  replace o1 := own_below o1 b3 (own_lt o1)
  replace bx := bx.trans (b3.mono bx.size)
  clear b3 b2
  go_wp2_with fail
  go_cut [10] from 24 to 32 (fun s10 W => ∃ (fv hv sv cv : Value) (g : Nat), s10 = .pointer (some ⟨g, 0, none⟩) ∧ Nz w fs half each w1.heap.size hv fv sv cv g W)
  case first =>
    refine wp_region_held_drew (S := (fun w' => ∀ j, w'.cell? ⟨w1.heap.size, j, none⟩ = #[.slice (some ⟨g1, 0, none⟩) (2 * half) p1, .int .i64 half, .int .i64 0, .int .i64 0][j]?)) (by kernel_rfl) (by first | (dsimp only; exact k8.2.1) | (exact k8.2.1)) (fun hHeld => ?_)
    refine tkH (i := 0) ?_
    refine tkH (i := 2) ?_
    refine tkH (i := 4) ?_
    refine tkH (i := 6) ?_
    generalize hxd : w3.drew = y0 at hHeld
    have hd : Below w3.heap.size w3 y0 := by rw [← hxd]; exact (Below.refl _ _).drew
    replace k6 := k6.below hd k6.1
    replace k8 := k8.below hd k8.1
    replace bx := bx.trans (hd.mono bx.size)
    replace o1 := own_below o1 hd (own_lt o1)
    have zx4 := hd.size
    clear hxd hd
    have N : Ny w fs half w1.heap.size (.slice (some ⟨g1, 0, none⟩) (2 * half) p1) none none none none y0 := ⟨bx, ⟨by omega, k8.1⟩, fun W' a => a.bx k6 (by simp), fun W' a => a.bx k8 (by simp), fun W' a => a.own o1, by simp, by simp, by simp, by simp⟩
    clear k6 k8 bx o1
    refine wpAnyH_ready (rs := [1, 3, 5, 8]) (by kernel_rfl) (by simp) ?_
    refine AllReadyH.cons (by (simp only [List.getElem?_toArray, List.getElem?_cons_succ, List.getElem?_cons_zero]; rfl)) (fun K hK => ?_) (AllReadyH.cons (by (simp only [List.getElem?_toArray, List.getElem?_cons_succ, List.getElem?_cons_zero]; rfl)) (fun K hK => ?_) (AllReadyH.cons (by (simp only [List.getElem?_toArray, List.getElem?_cons_succ, List.getElem?_cons_zero]; rfl)) (fun K hK => ?_) (AllReadyH.cons (by (simp only [List.getElem?_toArray, List.getElem?_cons_succ, List.getElem?_cons_zero]; rfl)) (fun K hK => ?_) AllReadyH.nil)))
    · go_simp
      refine (HR.out _ N.lb).mono ?_
      rintro e y1 ⟨fv, rfl, of, b9⟩
      obtain ⟨af, cf, rfl⟩ := of.form
      replace N := N.fun_ of b9
      have k9 := N.k8.here.2.1
      refine hK.out _ _ (by first | (dsimp only; exact k9) | (exact k9)) (fun hHeld => ?_)
      clear hK K k9
      try simp only [Act.put, List.setIfInBounds_toArray, List.set_cons_zero, List.set_cons_succ]
      refine wpAnyH_ready (rs := [3, 5, 8]) (by kernel_rfl) (by simp) ?_
      refine AllReadyH.cons (by (simp only [List.getElem?_toArray, List.getElem?_cons_succ, List.getElem?_cons_zero]; rfl)) (fun K hK => ?_) (AllReadyH.cons (by (simp only [List.getElem?_toArray, List.getElem?_cons_succ, List.getElem?_cons_zero]; rfl)) (fun K hK => ?_) (AllReadyH.cons (by (simp only [List.getElem?_toArray, List.getElem?_cons_succ, List.getElem?_cons_zero]; rfl)) (fun K hK => ?_) AllReadyH.nil))
      · go_simp
        generalize hy : y1.alloc _ = y2
        replace N := N.stk hy
        have k9 := N.k8.here.2.1
        refine hK.out _ _ (by first | (dsimp only; exact k9) | (exact k9)) (fun hHeld => ?_)
        clear hK K k9
        try simp only [Act.put, List.setIfInBounds_toArray, List.set_cons_zero, List.set_cons_succ]
        refine wpAnyH_ready (rs := [5, 8]) (by kernel_rfl) (by simp) ?_
        refine AllReadyH.cons (by (simp only [List.getElem?_toArray, List.getElem?_cons_succ, List.getElem?_cons_zero]; rfl)) (fun K hK => ?_) (AllReadyH.cons (by (simp only [List.getElem?_toArray, List.getElem?_cons_succ, List.getElem?_cons_zero]; rfl)) (fun K hK => ?_) AllReadyH.nil)
        · go_simp
          generalize hy : y2.alloc _ = y3
          replace N := N.cal hy
          have k9 := N.k8.here.2.1
          refine hK.out _ _ (by first | (dsimp only; exact k9) | (exact k9)) (fun hHeld => ?_)
          clear hK K k9
          try simp only [Act.put, List.setIfInBounds_toArray, List.set_cons_zero, List.set_cons_succ]
          refine tkH (i := 7) ?_
          refine wpAnyH_ready (rs := [8]) (by kernel_rfl) (by simp) ?_
          refine AllReadyH.cons (by (simp only [List.getElem?_toArray, List.getElem?_cons_succ, List.getElem?_cons_zero]; rfl)) (fun K hK => ?_) AllReadyH.nil
          · go_simp
            generalize hy : y3.alloc _ = y4
            replace N := N.box hy
            have k9 := N.k8.here.2.1
            refine hK.out _ _ (by first | (dsimp only; exact k9) | (exact k9)) (fun hHeld => ?_)
            clear hK K k9
            try simp only [Act.put, List.setIfInBounds_toArray, List.set_cons_zero, List.set_cons_succ]
            have c10 := (N.m _ rfl).1.2.1
            have f10 := (N.m _ rfl).1.2.2
            refine wpAnyH_ready (rs := [9]) (by kernel_rfl) (by simp) ?_
            refine AllReadyH.cons (by (simp only [List.getElem?_toArray, List.getElem?_cons_succ, List.getElem?_cons_zero]; rfl)) (fun K hK => ?_) AllReadyH.nil
            go_simp
            have NS := N.store (each := each)
            have k9 := NS.k8.2.1
            refine hK.out _ _ (by first | (dsimp only; exact k9) | (exact k9)) (fun hHeld => ?_)
            clear hK K
            refine wpAnyH_done (by kernel_rfl) ?_ _
            go_wp2_with fail
            go_meet
            exact ⟨_, _, _, _, _, rfl, NS⟩
        · go_simp
          generalize hy : y2.alloc _ = y5
          replace N := N.box hy
          have k9 := N.k8.here.2.1
          refine hK.out _ _ (by first | (dsimp only; exact k9) | (exact k9)) (fun hHeld => ?_)
          clear hK K k9
          try simp only [Act.put, List.setIfInBounds_toArray, List.set_cons_zero, List.set_cons_succ]
          refine wpAnyH_ready (rs := [5]) (by kernel_rfl) (by simp) ?_
          refine AllReadyH.cons (by (simp only [List.getElem?_toArray, List.getElem?_cons_succ, List.getElem?_cons_zero]; rfl)) (fun K hK => ?_) AllReadyH.nil
          · go_simp
            generalize hy : y5.alloc _ = y6
            replace N := N.cal hy
            have k9 := N.k8.here.2.1
            refine hK.out _ _ (by first | (dsimp only; exact k9) | (exact k9)) (fun hHeld => ?_)
            clear hK K k9
            try simp only [Act.put, List.setIfInBounds_toArray, List.set_cons_zero, List.set_cons_succ]
            refine tkH (i := 7) ?_
            have c10 := (N.m _ rfl).1.2.1
            have f10 := (N.m _ rfl).1.2.2
            refine wpAnyH_ready (rs := [9]) (by kernel_rfl) (by simp) ?_
            refine AllReadyH.cons (by (simp only [List.getElem?_toArray, List.getElem?_cons_succ, List.getElem?_cons_zero]; rfl)) (fun K hK => ?_) AllReadyH.nil
            go_simp
            have NS := N.store (each := each)
            have k9 := NS.k8.2.1
            refine hK.out _ _ (by first | (dsimp only; exact k9) | (exact k9)) (fun hHeld => ?_)
            clear hK K
            refine wpAnyH_done (by kernel_rfl) ?_ _
            go_wp2_with fail
            go_meet
            exact ⟨_, _, _, _, _, rfl, NS⟩
      · go_simp
        generalize hy : y1.alloc _ = y7
        replace N := N.cal hy
        have k9 := N.k8.here.2.1
        refine hK.out _ _ (by first | (dsimp only; exact k9) | (exact k9)) (fun hHeld => ?_)
        clear hK K k9
        try simp only [Act.put, List.setIfInBounds_toArray, List.set_cons_zero, List.set_cons_succ]
        refine wpAnyH_ready (rs := [3, 8]) (by kernel_rfl) (by simp) ?_
        refine AllReadyH.cons (by (simp only [List.getElem?_toArray, List.getElem?_cons_succ, List.getElem?_cons_zero]; rfl)) (fun K hK => ?_) (AllReadyH.cons (by (simp only [List.getElem?_toArray, List.getElem?_cons_succ, List.getElem?_cons_zero]; rfl)) (fun K hK => ?_) AllReadyH.nil)
        · go_simp
          generalize hy : y7.alloc _ = y8
          replace N := N.stk hy
          have k9 := N.k8.here.2.1
          refine hK.out _ _ (by first | (dsimp only; exact k9) | (exact k9)) (fun hHeld => ?_)
          clear hK K k9
          try simp only [Act.put, List.setIfInBounds_toArray, List.set_cons_zero, List.set_cons_succ]
          refine tkH (i := 7) ?_
          refine wpAnyH_ready (rs := [8]) (by kernel_rfl) (by simp) ?_
          refine AllReadyH.cons (by (simp only [List.getElem?_toArray, List.getElem?_cons_succ, List.getElem?_cons_zero]; rfl)) (fun K hK => ?_) AllReadyH.nil
          · go_simp
            generalize hy : y8.alloc _ = y9
            replace N := N.box hy
            have k9 := N.k8.here.2.1
            refine hK.out _ _ (by first | (dsimp only; exact k9) | (exact k9)) (fun hHeld => ?_)
            clear hK K k9
            try simp only [Act.put, List.setIfInBounds_toArray, List.set_cons_zero, List.set_cons_succ]
            have c10 := (N.m _ rfl).1.2.1
            have f10 := (N.m _ rfl).1.2.2
            refine wpAnyH_ready (rs := [9]) (by kernel_rfl) (by simp) ?_
            refine AllReadyH.cons (by (simp only [List.getElem?_toArray, List.getElem?_cons_succ, List.getElem?_cons_zero]; rfl)) (fun K hK => ?_) AllReadyH.nil
            go_simp
            have NS := N.store (each := each)
            have k9 := NS.k8.2.1
            refine hK.out _ _ (by first | (dsimp only; exact k9) | (exact k9)) (fun hHeld => ?_)
            clear hK K
            refine wpAnyH_done (by kernel_rfl) ?_ _
            go_wp2_with fail
            go_meet
            exact ⟨_, _, _, _, _, rfl, NS⟩
        · go_simp
          generalize hy : y7.alloc _ = y10
          replace N := N.box hy
          have k9 := N.k8.here.2.1
          refine hK.out _ _ (by first | (dsimp only; exact k9) | (exact k9)) (fun hHeld => ?_)
          clear hK K k9
          try simp only [Act.put, List.setIfInBounds_toArray, List.set_cons_zero, List.set_cons_succ]
          refine wpAnyH_ready (rs := [3]) (by kernel_rfl) (by simp) ?_
          refine AllReadyH.cons (by (simp only [List.getElem?_toArray, List.getElem?_cons_succ, List.getElem?_cons_zero]; rfl)) (fun K hK => ?_) AllReadyH.nil
          · go_simp
            generalize hy : y10.alloc _ = y11
            replace N := N.stk hy
            have k9 := N.k8.here.2.1
            refine hK.out _ _ (by first | (dsimp only; exact k9) | (exact k9)) (fun hHeld => ?_)
            clear hK K k9
            try simp only [Act.put, List.setIfInBounds_toArray, List.set_cons_zero, List.set_cons_succ]
            refine tkH (i := 7) ?_
            have c10 := (N.m _ rfl).1.2.1
            have f10 := (N.m _ rfl).1.2.2
            refine wpAnyH_ready (rs := [9]) (by kernel_rfl) (by simp) ?_
            refine AllReadyH.cons (by (simp only [List.getElem?_toArray, List.getElem?_cons_succ, List.getElem?_cons_zero]; rfl)) (fun K hK => ?_) AllReadyH.nil
            go_simp
            have NS := N.store (each := each)
            have k9 := NS.k8.2.1
            refine hK.out _ _ (by first | (dsimp only; exact k9) | (exact k9)) (fun hHeld => ?_)
            clear hK K
            refine wpAnyH_done (by kernel_rfl) ?_ _
            go_wp2_with fail
            go_meet
            exact ⟨_, _, _, _, _, rfl, NS⟩
      · go_simp
        generalize hy : y1.alloc _ = y12
        replace N := N.box hy
        have k9 := N.k8.here.2.1
        refine hK.out _ _ (by first | (dsimp only; exact k9) | (exact k9)) (fun hHeld => ?_)
        clear hK K k9
        try simp only [Act.put, List.setIfInBounds_toArray, List.set_cons_zero, List.set_cons_succ]
        refine wpAnyH_ready (rs := [3, 5]) (by kernel_rfl) (by simp) ?_
        refine AllReadyH.cons (by (simp only [List.getElem?_toArray, List.getElem?_cons_succ, List.getElem?_cons_zero]; rfl)) (fun K hK => ?_) (AllReadyH.cons (by (simp only [List.getElem?_toArray, List.getElem?_cons_succ, List.getElem?_cons_zero]; rfl)) (fun K hK => ?_) AllReadyH.nil)
        · go_simp
          generalize hy : y12.alloc _ = y13
          replace N := N.stk hy
          have k9 := N.k8.here.2.1
          refine hK.out _ _ (by first | (dsimp only; exact k9) | (exact k9)) (fun hHeld => ?_)
          clear hK K k9
          try simp only [Act.put, List.setIfInBounds_toArray, List.set_cons_zero, List.set_cons_succ]
          refine wpAnyH_ready (rs := [5]) (by kernel_rfl) (by simp) ?_
          refine AllReadyH.cons (by (simp only [List.getElem?_toArray, List.getElem?_cons_succ, List.getElem?_cons_zero]; rfl)) (fun K hK => ?_) AllReadyH.nil
          · go_simp
            generalize hy : y13.alloc _ = y14
            replace N := N.cal hy
            have k9 := N.k8.here.2.1
            refine hK.out _ _ (by first | (dsimp only; exact k9) | (exact k9)) (fun hHeld => ?_)
            clear hK K k9
            try simp only [Act.put, List.setIfInBounds_toArray, List.set_cons_zero, List.set_cons_succ]
            refine tkH (i := 7) ?_
            have c10 := (N.m _ rfl).1.2.1
            have f10 := (N.m _ rfl).1.2.2
            refine wpAnyH_ready (rs := [9]) (by kernel_rfl) (by simp) ?_
            refine AllReadyH.cons (by (simp only [List.getElem?_toArray, List.getElem?_cons_succ, List.getElem?_cons_zero]; rfl)) (fun K hK => ?_) AllReadyH.nil
            go_simp
            have NS := N.store (each := each)
            have k9 := NS.k8.2.1
            refine hK.out _ _ (by first | (dsimp only; exact k9) | (exact k9)) (fun hHeld => ?_)
            clear hK K
            refine wpAnyH_done (by kernel_rfl) ?_ _
            go_wp2_with fail
            go_meet
            exact ⟨_, _, _, _, _, rfl, NS⟩
        · go_simp
          generalize hy : y12.alloc _ = y15
          replace N := N.cal hy
          have k9 := N.k8.here.2.1
          refine hK.out _ _ (by first | (dsimp only; exact k9) | (exact k9)) (fun hHeld => ?_)
          clear hK K k9
          try simp only [Act.put, List.setIfInBounds_toArray, List.set_cons_zero, List.set_cons_succ]
          refine wpAnyH_ready (rs := [3]) (by kernel_rfl) (by simp) ?_
          refine AllReadyH.cons (by (simp only [List.getElem?_toArray, List.getElem?_cons_succ, List.getElem?_cons_zero]; rfl)) (fun K hK => ?_) AllReadyH.nil
          · go_simp
            generalize hy : y15.alloc _ = y16
            replace N := N.stk hy
            have k9 := N.k8.here.2.1
            refine hK.out _ _ (by first | (dsimp only; exact k9) | (exact k9)) (fun hHeld => ?_)
            clear hK K k9
            try simp only [Act.put, List.setIfInBounds_toArray, List.set_cons_zero, List.set_cons_succ]
            refine tkH (i := 7) ?_
            have c10 := (N.m _ rfl).1.2.1
            have f10 := (N.m _ rfl).1.2.2
            refine wpAnyH_ready (rs := [9]) (by kernel_rfl) (by simp) ?_
            refine AllReadyH.cons (by (simp only [List.getElem?_toArray, List.getElem?_cons_succ, List.getElem?_cons_zero]; rfl)) (fun K hK => ?_) AllReadyH.nil
            go_simp
            have NS := N.store (each := each)
            have k9 := NS.k8.2.1
            refine hK.out _ _ (by first | (dsimp only; exact k9) | (exact k9)) (fun hHeld => ?_)
            clear hK K
            refine wpAnyH_done (by kernel_rfl) ?_ _
            go_wp2_with fail
            go_meet
            exact ⟨_, _, _, _, _, rfl, NS⟩
    · go_simp
      generalize hy : y0.alloc _ = y17
      replace N := N.stk hy
      have k9 := N.k8.here.2.1
      refine hK.out _ _ (by first | (dsimp only; exact k9) | (exact k9)) (fun hHeld => ?_)
      clear hK K k9
      try simp only [Act.put, List.setIfInBounds_toArray, List.set_cons_zero, List.set_cons_succ]
      refine wpAnyH_ready (rs := [1, 5, 8]) (by kernel_rfl) (by simp) ?_
      refine AllReadyH.cons (by (simp only [List.getElem?_toArray, List.getElem?_cons_succ, List.getElem?_cons_zero]; rfl)) (fun K hK => ?_) (AllReadyH.cons (by (simp only [List.getElem?_toArray, List.getElem?_cons_succ, List.getElem?_cons_zero]; rfl)) (fun K hK => ?_) (AllReadyH.cons (by (simp only [List.getElem?_toArray, List.getElem?_cons_succ, List.getElem?_cons_zero]; rfl)) (fun K hK => ?_) AllReadyH.nil))
      · go_simp
        refine (HR.out _ N.lb).mono ?_
        rintro e y18 ⟨fv, rfl, of, b9⟩
        obtain ⟨af, cf, rfl⟩ := of.form
        replace N := N.fun_ of b9
        have k9 := N.k8.here.2.1
        refine hK.out _ _ (by first | (dsimp only; exact k9) | (exact k9)) (fun hHeld => ?_)
        clear hK K k9
        try simp only [Act.put, List.setIfInBounds_toArray, List.set_cons_zero, List.set_cons_succ]
        refine wpAnyH_ready (rs := [5, 8]) (by kernel_rfl) (by simp) ?_
        refine AllReadyH.cons (by (simp only [List.getElem?_toArray, List.getElem?_cons_succ, List.getElem?_cons_zero]; rfl)) (fun K hK => ?_) (AllReadyH.cons (by (simp only [List.getElem?_toArray, List.getElem?_cons_succ, List.getElem?_cons_zero]; rfl)) (fun K hK => ?_) AllReadyH.nil)
        · go_simp
          generalize hy : y18.alloc _ = y19
          replace N := N.cal hy
          have k9 := N.k8.here.2.1
          refine hK.out _ _ (by first | (dsimp only; exact k9) | (exact k9)) (fun hHeld => ?_)
          clear hK K k9
          try simp only [Act.put, List.setIfInBounds_toArray, List.set_cons_zero, List.set_cons_succ]
          refine tkH (i := 7) ?_
          refine wpAnyH_ready (rs := [8]) (by kernel_rfl) (by simp) ?_
          refine AllReadyH.cons (by (simp only [List.getElem?_toArray, List.getElem?_cons_succ, List.getElem?_cons_zero]; rfl)) (fun K hK => ?_) AllReadyH.nil
          · go_simp
            generalize hy : y19.alloc _ = y20
            replace N := N.box hy
            have k9 := N.k8.here.2.1
            refine hK.out _ _ (by first | (dsimp only; exact k9) | (exact k9)) (fun hHeld => ?_)
            clear hK K k9
            try simp only [Act.put, List.setIfInBounds_toArray, List.set_cons_zero, List.set_cons_succ]
            have c10 := (N.m _ rfl).1.2.1
            have f10 := (N.m _ rfl).1.2.2
            refine wpAnyH_ready (rs := [9]) (by kernel_rfl) (by simp) ?_
            refine AllReadyH.cons (by (simp only [List.getElem?_toArray, List.getElem?_cons_succ, List.getElem?_cons_zero]; rfl)) (fun K hK => ?_) AllReadyH.nil
            go_simp
            have NS := N.store (each := each)
            have k9 := NS.k8.2.1
            refine hK.out _ _ (by first | (dsimp only; exact k9) | (exact k9)) (fun hHeld => ?_)
            clear hK K
            refine wpAnyH_done (by kernel_rfl) ?_ _
            go_wp2_with fail
            go_meet
            exact ⟨_, _, _, _, _, rfl, NS⟩
        · go_simp
          generalize hy : y18.alloc _ = y21
          replace N := N.box hy
          have k9 := N.k8.here.2.1
          refine hK.out _ _ (by first | (dsimp only; exact k9) | (exact k9)) (fun hHeld => ?_)
          clear hK K k9
          try simp only [Act.put, List.setIfInBounds_toArray, List.set_cons_zero, List.set_cons_succ]
          refine wpAnyH_ready (rs := [5]) (by kernel_rfl) (by simp) ?_
          refine AllReadyH.cons (by (simp only [List.getElem?_toArray, List.getElem?_cons_succ, List.getElem?_cons_zero]; rfl)) (fun K hK => ?_) AllReadyH.nil
          · go_simp
            generalize hy : y21.alloc _ = y22
            replace N := N.cal hy
            have k9 := N.k8.here.2.1
            refine hK.out _ _ (by first | (dsimp only; exact k9) | (exact k9)) (fun hHeld => ?_)
            clear hK K k9
            try simp only [Act.put, List.setIfInBounds_toArray, List.set_cons_zero, List.set_cons_succ]
            refine tkH (i := 7) ?_
            have c10 := (N.m _ rfl).1.2.1
            have f10 := (N.m _ rfl).1.2.2
            refine wpAnyH_ready (rs := [9]) (by kernel_rfl) (by simp) ?_
            refine AllReadyH.cons (by (simp only [List.getElem?_toArray, List.getElem?_cons_succ, List.getElem?_cons_zero]; rfl)) (fun K hK => ?_) AllReadyH.nil
            go_simp
            have NS := N.store (each := each)
            have k9 := NS.k8.2.1
            refine hK.out _ _ (by first | (dsimp only; exact k9) | (exact k9)) (fun hHeld => ?_)
            clear hK K
            refine wpAnyH_done (by kernel_rfl) ?_ _
            go_wp2_with fail
            go_meet
            exact ⟨_, _, _, _, _, rfl, NS⟩
      · go_simp
        generalize hy : y17.alloc _ = y23
        replace N := N.cal hy
        have k9 := N.k8.here.2.1
        refine hK.out _ _ (by first | (dsimp only; exact k9) | (exact k9)) (fun hHeld => ?_)
        clear hK K k9
        try simp only [Act.put, List.setIfInBounds_toArray, List.set_cons_zero, List.set_cons_succ]
        refine wpAnyH_ready (rs := [1, 8]) (by kernel_rfl) (by simp) ?_
        refine AllReadyH.cons (by (simp only [List.getElem?_toArray, List.getElem?_cons_succ, List.getElem?_cons_zero]; rfl)) (fun K hK => ?_) (AllReadyH.cons (by (simp only [List.getElem?_toArray, List.getElem?_cons_succ, List.getElem?_cons_zero]; rfl)) (fun K hK => ?_) AllReadyH.nil)
        · go_simp
          refine (HR.out _ N.lb).mono ?_
          rintro e y24 ⟨fv, rfl, of, b9⟩
          obtain ⟨af, cf, rfl⟩ := of.form
          replace N := N.fun_ of b9
          have k9 := N.k8.here.2.1
          refine hK.out _ _ (by first | (dsimp only; exact k9) | (exact k9)) (fun hHeld => ?_)
          clear hK K k9
          try simp only [Act.put, List.setIfInBounds_toArray, List.set_cons_zero, List.set_cons_succ]
          refine tkH (i := 7) ?_
          refine wpAnyH_ready (rs := [8]) (by kernel_rfl) (by simp) ?_
          refine AllReadyH.cons (by (simp only [List.getElem?_toArray, List.getElem?_cons_succ, List.getElem?_cons_zero]; rfl)) (fun K hK => ?_) AllReadyH.nil
          · go_simp
            generalize hy : y24.alloc _ = y25
            replace N := N.box hy
            have k9 := N.k8.here.2.1
            refine hK.out _ _ (by first | (dsimp only; exact k9) | (exact k9)) (fun hHeld => ?_)
            clear hK K k9
            try simp only [Act.put, List.setIfInBounds_toArray, List.set_cons_zero, List.set_cons_succ]
            have c10 := (N.m _ rfl).1.2.1
            have f10 := (N.m _ rfl).1.2.2
            refine wpAnyH_ready (rs := [9]) (by kernel_rfl) (by simp) ?_
            refine AllReadyH.cons (by (simp only [List.getElem?_toArray, List.getElem?_cons_succ, List.getElem?_cons_zero]; rfl)) (fun K hK => ?_) AllReadyH.nil
            go_simp
            have NS := N.store (each := each)
            have k9 := NS.k8.2.1
            refine hK.out _ _ (by first | (dsimp only; exact k9) | (exact k9)) (fun hHeld => ?_)
            clear hK K
            refine wpAnyH_done (by kernel_rfl) ?_ _
            go_wp2_with fail
            go_meet
            exact ⟨_, _, _, _, _, rfl, NS⟩
        · go_simp
          generalize hy : y23.alloc _ = y26
          replace N := N.box hy
          have k9 := N.k8.here.2.1
          refine hK.out _ _ (by first | (dsimp only; exact k9) | (exact k9)) (fun hHeld => ?_)
          clear hK K k9
          try simp only [Act.put, List.setIfInBounds_toArray, List.set_cons_zero, List.set_cons_succ]
          refine wpAnyH_ready (rs := [1]) (by kernel_rfl) (by simp) ?_
          refine AllReadyH.cons (by (simp only [List.getElem?_toArray, List.getElem?_cons_succ, List.getElem?_cons_zero]; rfl)) (fun K hK => ?_) AllReadyH.nil
          · go_simp
            refine (HR.out _ N.lb).mono ?_
            rintro e y27 ⟨fv, rfl, of, b9⟩
            obtain ⟨af, cf, rfl⟩ := of.form
            replace N := N.fun_ of b9
            have k9 := N.k8.here.2.1
            refine hK.out _ _ (by first | (dsimp only; exact k9) | (exact k9)) (fun hHeld => ?_)
            clear hK K k9
            try simp only [Act.put, List.setIfInBounds_toArray, List.set_cons_zero, List.set_cons_succ]
            refine tkH (i := 7) ?_
            have c10 := (N.m _ rfl).1.2.1
            have f10 := (N.m _ rfl).1.2.2
            refine wpAnyH_ready (rs := [9]) (by kernel_rfl) (by simp) ?_
            refine AllReadyH.cons (by (simp only [List.getElem?_toArray, List.getElem?_cons_succ, List.getElem?_cons_zero]; rfl)) (fun K hK => ?_) AllReadyH.nil
            go_simp
            have NS := N.store (each := each)
            have k9 := NS.k8.2.1
            refine hK.out _ _ (by first | (dsimp only; exact k9) | (exact k9)) (fun hHeld => ?_)
            clear hK K
            refine wpAnyH_done (by kernel_rfl) ?_ _
            go_wp2_with fail
            go_meet
            exact ⟨_, _, _, _, _, rfl, NS⟩
      · go_simp
        generalize hy : y17.alloc _ = y28
        replace N := N.box hy
        have k9 := N.k8.here.2.1
        refine hK.out _ _ (by first | (dsimp only; exact k9) | (exact k9)) (fun hHeld => ?_)
        clear hK K k9
        try simp only [Act.put, List.setIfInBounds_toArray, List.set_cons_zero, List.set_cons_succ]
        refine wpAnyH_ready (rs := [1, 5]) (by kernel_rfl) (by simp) ?_
        refine AllReadyH.cons (by (simp only [List.getElem?_toArray, List.getElem?_cons_succ, List.getElem?_cons_zero]; rfl)) (fun K hK => ?_) (AllReadyH.cons (by (simp only [List.getElem?_toArray, List.getElem?_cons_succ, List.getElem?_cons_zero]; rfl)) (fun K hK => ?_) AllReadyH.nil)
        · go_simp
          refine (HR.out _ N.lb).mono ?_
          rintro e y29 ⟨fv, rfl, of, b9⟩
          obtain ⟨af, cf, rfl⟩ := of.form
          replace N := N.fun_ of b9
          have k9 := N.k8.here.2.1
          refine hK.out _ _ (by first | (dsimp only; exact k9) | (exact k9)) (fun hHeld => ?_)
          clear hK K k9
          try simp only [Act.put, List.setIfInBounds_toArray, List.set_cons_zero, List.set_cons_succ]
          refine wpAnyH_ready (rs := [5]) (by kernel_rfl) (by simp) ?_
          refine AllReadyH.cons (by (simp only [List.getElem?_toArray, List.getElem?_cons_succ, List.getElem?_cons_zero]; rfl)) (fun K hK => ?_) AllReadyH.nil
          · go_simp
            generalize hy : y29.alloc _ = y30
            replace N := N.cal hy
            have k9 := N.k8.here.2.1
            refine hK.out _ _ (by first | (dsimp only; exact k9) | (exact k9)) (fun hHeld => ?_)
            clear hK K k9
            try simp only [Act.put, List.setIfInBounds_toArray, List.set_cons_zero, List.set_cons_succ]
            refine tkH (i := 7) ?_
            have c10 := (N.m _ rfl).1.2.1
            have f10 := (N.m _ rfl).1.2.2
            refine wpAnyH_ready (rs := [9]) (by kernel_rfl) (by simp) ?_
            refine AllReadyH.cons (by (simp only [List.getElem?_toArray, List.getElem?_cons_succ, List.getElem?_cons_zero]; rfl)) (fun K hK => ?_) AllReadyH.nil
            go_simp
            have NS := N.store (each := each)
            have k9 := NS.k8.2.1
            refine hK.out _ _ (by first | (dsimp only; exact k9) | (exact k9)) (fun hHeld => ?_)
            clear hK K
            refine wpAnyH_done (by kernel_rfl) ?_ _
            go_wp2_with fail
            go_meet
            exact ⟨_, _, _, _, _, rfl, NS⟩
        · go_simp
          generalize hy : y28.alloc _ = y31
          replace N := N.cal hy
          have k9 := N.k8.here.2.1
          refine hK.out _ _ (by first | (dsimp only; exact k9) | (exact k9)) (fun hHeld => ?_)
          clear hK K k9
          try simp only [Act.put, List.setIfInBounds_toArray, List.set_cons_zero, List.set_cons_succ]
          refine wpAnyH_ready (rs := [1]) (by kernel_rfl) (by simp) ?_
          refine AllReadyH.cons (by (simp only [List.getElem?_toArray, List.getElem?_cons_succ, List.getElem?_cons_zero]; rfl)) (fun K hK => ?_) AllReadyH.nil
          · go_simp
            refine (HR.out _ N.lb).mono ?_
            rintro e y32 ⟨fv, rfl, of, b9⟩
            obtain ⟨af, cf, rfl⟩ := of.form
            replace N := N.fun_ of b9
            have k9 := N.k8.here.2.1
            refine hK.out _ _ (by first | (dsimp only; exact k9) | (exact k9)) (fun hHeld => ?_)
            clear hK K k9
            try simp only [Act.put, List.setIfInBounds_toArray, List.set_cons_zero, List.set_cons_succ]
            refine tkH (i := 7) ?_
            have c10 := (N.m _ rfl).1.2.1
            have f10 := (N.m _ rfl).1.2.2
            refine wpAnyH_ready (rs := [9]) (by kernel_rfl) (by simp) ?_
            refine AllReadyH.cons (by (simp only [List.getElem?_toArray, List.getElem?_cons_succ, List.getElem?_cons_zero]; rfl)) (fun K hK => ?_) AllReadyH.nil
            go_simp
            have NS := N.store (each := each)
            have k9 := NS.k8.2.1
            refine hK.out _ _ (by first | (dsimp only; exact k9) | (exact k9)) (fun hHeld => ?_)
            clear hK K
            refine wpAnyH_done (by kernel_rfl) ?_ _
            go_wp2_with fail
            go_meet
            exact ⟨_, _, _, _, _, rfl, NS⟩
    · go_simp
      generalize hy : y0.alloc _ = y33
      replace N := N.cal hy
      have k9 := N.k8.here.2.1
      refine hK.out _ _ (by first | (dsimp only; exact k9) | (exact k9)) (fun hHeld => ?_)
      clear hK K k9
      try simp only [Act.put, List.setIfInBounds_toArray, List.set_cons_zero, List.set_cons_succ]
      refine wpAnyH_ready (rs := [1, 3, 8]) (by kernel_rfl) (by simp) ?_
      refine AllReadyH.cons (by (simp only [List.getElem?_toArray, List.getElem?_cons_succ, List.getElem?_cons_zero]; rfl)) (fun K hK => ?_) (AllReadyH.cons (by (simp only [List.getElem?_toArray, List.getElem?_cons_succ, List.getElem?_cons_zero]; rfl)) (fun K hK => ?_) (AllReadyH.cons (by (simp only [List.getElem?_toArray, List.getElem?_cons_succ, List.getElem?_cons_zero]; rfl)) (fun K hK => ?_) AllReadyH.nil))
      · go_simp
        refine (HR.out _ N.lb).mono ?_
        rintro e y34 ⟨fv, rfl, of, b9⟩
        obtain ⟨af, cf, rfl⟩ := of.form
        replace N := N.fun_ of b9
        have k9 := N.k8.here.2.1
        refine hK.out _ _ (by first | (dsimp only; exact k9) | (exact k9)) (fun hHeld => ?_)
        clear hK K k9
        try simp only [Act.put, List.setIfInBounds_toArray, List.set_cons_zero, List.set_cons_succ]
        refine wpAnyH_ready (rs := [3, 8]) (by kernel_rfl) (by simp) ?_
        refine AllReadyH.cons (by (simp only [List.getElem?_toArray, List.getElem?_cons_succ, List.getElem?_cons_zero]; rfl)) (fun K hK => ?_) (AllReadyH.cons (by (simp only [List.getElem?_toArray, List.getElem?_cons_succ, List.getElem?_cons_zero]; rfl)) (fun K hK => ?_) AllReadyH.nil)
        · go_simp
          generalize hy : y34.alloc _ = y35
          replace N := N.stk hy
          have k9 := N.k8.here.2.1
          refine hK.out _ _ (by first | (dsimp only; exact k9) | (exact k9)) (fun hHeld => ?_)
          clear hK K k9
          try simp only [Act.put, List.setIfInBounds_toArray, List.set_cons_zero, List.set_cons_succ]
          refine tkH (i := 7) ?_
          refine wpAnyH_ready (rs := [8]) (by kernel_rfl) (by simp) ?_
          refine AllReadyH.cons (by (simp only [List.getElem?_toArray, List.getElem?_cons_succ, List.getElem?_cons_zero]; rfl)) (fun K hK => ?_) AllReadyH.nil
          · go_simp
            generalize hy : y35.alloc _ = y36
            replace N := N.box hy
            have k9 := N.k8.here.2.1
            refine hK.out _ _ (by first | (dsimp only; exact k9) | (exact k9)) (fun hHeld => ?_)
            clear hK K k9
            try simp only [Act.put, List.setIfInBounds_toArray, List.set_cons_zero, List.set_cons_succ]
            have c10 := (N.m _ rfl).1.2.1
            have f10 := (N.m _ rfl).1.2.2
            refine wpAnyH_ready (rs := [9]) (by kernel_rfl) (by simp) ?_
            refine AllReadyH.cons (by (simp only [List.getElem?_toArray, List.getElem?_cons_succ, List.getElem?_cons_zero]; rfl)) (fun K hK => ?_) AllReadyH.nil
            go_simp
            have NS := N.store (each := each)
            have k9 := NS.k8.2.1
            refine hK.out _ _ (by first | (dsimp only; exact k9) | (exact k9)) (fun hHeld => ?_)
            clear hK K
            refine wpAnyH_done (by kernel_rfl) ?_ _
            go_wp2_with fail
            go_meet
            exact ⟨_, _, _, _, _, rfl, NS⟩
        · go_simp
          generalize hy : y34.alloc _ = y37
          replace N := N.box hy
          have k9 := N.k8.here.2.1
          refine hK.out _ _ (by first | (dsimp only; exact k9) | (exact k9)) (fun hHeld => ?_)
          clear hK K k9
          try simp only [Act.put, List.setIfInBounds_toArray, List.set_cons_zero, List.set_cons_succ]
          refine wpAnyH_ready (rs := [3]) (by kernel_rfl) (by simp) ?_
          refine AllReadyH.cons (by (simp only [List.getElem?_toArray, List.getElem?_cons_succ, List.getElem?_cons_zero]; rfl)) (fun K hK => ?_) AllReadyH.nil
          · go_simp
            generalize hy : y37.alloc _ = y38
            replace N := N.stk hy
            have k9 := N.k8.here.2.1
            refine hK.out _ _ (by first | (dsimp only; exact k9) | (exact k9)) (fun hHeld => ?_)
            clear hK K k9
            try simp only [Act.put, List.setIfInBounds_toArray, List.set_cons_zero, List.set_cons_succ]
            refine tkH (i := 7) ?_
            have c10 := (N.m _ rfl).1.2.1
            have f10 := (N.m _ rfl).1.2.2
            refine wpAnyH_ready (rs := [9]) (by kernel_rfl) (by simp) ?_
            refine AllReadyH.cons (by (simp only [List.getElem?_toArray, List.getElem?_cons_succ, List.getElem?_cons_zero]; rfl)) (fun K hK => ?_) AllReadyH.nil
            go_simp
            have NS := N.store (each := each)
            have k9 := NS.k8.2.1
            refine hK.out _ _ (by first | (dsimp only; exact k9) | (exact k9)) (fun hHeld => ?_)
            clear hK K
            refine wpAnyH_done (by kernel_rfl) ?_ _
            go_wp2_with fail
            go_meet
            exact ⟨_, _, _, _, _, rfl, NS⟩
      · go_simp
        generalize hy : y33.alloc _ = y39
        replace N := N.stk hy
        have k9 := N.k8.here.2.1
        refine hK.out _ _ (by first | (dsimp only; exact k9) | (exact k9)) (fun hHeld => ?_)
        clear hK K k9
        try simp only [Act.put, List.setIfInBounds_toArray, List.set_cons_zero, List.set_cons_succ]
        refine wpAnyH_ready (rs := [1, 8]) (by kernel_rfl) (by simp) ?_
        refine AllReadyH.cons (by (simp only [List.getElem?_toArray, List.getElem?_cons_succ, List.getElem?_cons_zero]; rfl)) (fun K hK => ?_) (AllReadyH.cons (by (simp only [List.getElem?_toArray, List.getElem?_cons_succ, List.getElem?_cons_zero]; rfl)) (fun K hK => ?_) AllReadyH.nil)
        · go_simp
          refine (HR.out _ N.lb).mono ?_
          rintro e y40 ⟨fv, rfl, of, b9⟩
          obtain ⟨af, cf, rfl⟩ := of.form
          replace N := N.fun_ of b9
          have k9 := N.k8.here.2.1
          refine hK.out _ _ (by first | (dsimp only; exact k9) | (exact k9)) (fun hHeld => ?_)
          clear hK K k9
          try simp only [Act.put, List.setIfInBounds_toArray, List.set_cons_zero, List.set_cons_succ]
          refine tkH (i := 7) ?_
          refine wpAnyH_ready (rs := [8]) (by kernel_rfl) (by simp) ?_
          refine AllReadyH.cons (by (simp only [List.getElem?_toArray, List.getElem?_cons_succ, List.getElem?_cons_zero]; rfl)) (fun K hK => ?_) AllReadyH.nil
          · go_simp
            generalize hy : y40.alloc _ = y41
            replace N := N.box hy
            have k9 := N.k8.here.2.1
            refine hK.out _ _ (by first | (dsimp only; exact k9) | (exact k9)) (fun hHeld => ?_)
            clear hK K k9
            try simp only [Act.put, List.setIfInBounds_toArray, List.set_cons_zero, List.set_cons_succ]
            have c10 := (N.m _ rfl).1.2.1
            have f10 := (N.m _ rfl).1.2.2
            refine wpAnyH_ready (rs := [9]) (by kernel_rfl) (by simp) ?_
            refine AllReadyH.cons (by (simp only [List.getElem?_toArray, List.getElem?_cons_succ, List.getElem?_cons_zero]; rfl)) (fun K hK => ?_) AllReadyH.nil
            go_simp
            have NS := N.store (each := each)
            have k9 := NS.k8.2.1
            refine hK.out _ _ (by first | (dsimp only; exact k9) | (exact k9)) (fun hHeld => ?_)
            clear hK K
            refine wpAnyH_done (by kernel_rfl) ?_ _
            go_wp2_with fail
            go_meet
            exact ⟨_, _, _, _, _, rfl, NS⟩
        · go_simp
          generalize hy : y39.alloc _ = y42
          replace N := N.box hy
          have k9 := N.k8.here.2.1
          refine hK.out _ _ (by first | (dsimp only; exact k9) | (exact k9)) (fun hHeld => ?_)
          clear hK K k9
          try simp only [Act.put, List.setIfInBounds_toArray, List.set_cons_zero, List.set_cons_succ]
          refine wpAnyH_ready (rs := [1]) (by kernel_rfl) (by simp) ?_
          refine AllReadyH.cons (by (simp only [List.getElem?_toArray, List.getElem?_cons_succ, List.getElem?_cons_zero]; rfl)) (fun K hK => ?_) AllReadyH.nil
          · go_simp
            refine (HR.out _ N.lb).mono ?_
            rintro e y43 ⟨fv, rfl, of, b9⟩
            obtain ⟨af, cf, rfl⟩ := of.form
            replace N := N.fun_ of b9
            have k9 := N.k8.here.2.1
            refine hK.out _ _ (by first | (dsimp only; exact k9) | (exact k9)) (fun hHeld => ?_)
            clear hK K k9
            try simp only [Act.put, List.setIfInBounds_toArray, List.set_cons_zero, List.set_cons_succ]
            refine tkH (i := 7) ?_
            have c10 := (N.m _ rfl).1.2.1
            have f10 := (N.m _ rfl).1.2.2
            refine wpAnyH_ready (rs := [9]) (by kernel_rfl) (by simp) ?_
            refine AllReadyH.cons (by (simp only [List.getElem?_toArray, List.getElem?_cons_succ, List.getElem?_cons_zero]; rfl)) (fun K hK => ?_) AllReadyH.nil
            go_simp
            have NS := N.store (each := each)
            have k9 := NS.k8.2.1
            refine hK.out _ _ (by first | (dsimp only; exact k9) | (exact k9)) (fun hHeld => ?_)
            clear hK K
            refine wpAnyH_done (by kernel_rfl) ?_ _
            go_wp2_with fail
            go_meet
            exact ⟨_, _, _, _, _, rfl, NS⟩
      · go_simp
        generalize hy : y33.alloc _ = y44
        replace N := N.box hy
        have k9 := N.k8.here.2.1
        refine hK.out _ _ (by first | (dsimp only; exact k9) | (exact k9)) (fun hHeld => ?_)
        clear hK K k9
        try simp only [Act.put, List.setIfInBounds_toArray, List.set_cons_zero, List.set_cons_succ]
        refine wpAnyH_ready (rs := [1, 3]) (by kernel_rfl) (by simp) ?_
        refine AllReadyH.cons (by (simp only [List.getElem?_toArray, List.getElem?_cons_succ, List.getElem?_cons_zero]; rfl)) (fun K hK => ?_) (AllReadyH.cons (by (simp only [List.getElem?_toArray, List.getElem?_cons_succ, List.getElem?_cons_zero]; rfl)) (fun K hK => ?_) AllReadyH.nil)
        · go_simp
          refine (HR.out _ N.lb).mono ?_
          rintro e y45 ⟨fv, rfl, of, b9⟩
          obtain ⟨af, cf, rfl⟩ := of.form
          replace N := N.fun_ of b9
          have k9 := N.k8.here.2.1
          refine hK.out _ _ (by first | (dsimp only; exact k9) | (exact k9)) (fun hHeld => ?_)
          clear hK K k9
          try simp only [Act.put, List.setIfInBounds_toArray, List.set_cons_zero, List.set_cons_succ]
          refine wpAnyH_ready (rs := [3]) (by kernel_rfl) (by simp) ?_
          refine AllReadyH.cons (by (simp only [List.getElem?_toArray, List.getElem?_cons_succ, List.getElem?_cons_zero]; rfl)) (fun K hK => ?_) AllReadyH.nil
          · go_simp
            generalize hy : y45.alloc _ = y46
            replace N := N.stk hy
            have k9 := N.k8.here.2.1
            refine hK.out _ _ (by first | (dsimp only; exact k9) | (exact k9)) (fun hHeld => ?_)
            clear hK K k9
            try simp only [Act.put, List.setIfInBounds_toArray, List.set_cons_zero, List.set_cons_succ]
            refine tkH (i := 7) ?_
            have c10 := (N.m _ rfl).1.2.1
            have f10 := (N.m _ rfl).1.2.2
            refine wpAnyH_ready (rs := [9]) (by kernel_rfl) (by simp) ?_
            refine AllReadyH.cons (by (simp only [List.getElem?_toArray, List.getElem?_cons_succ, List.getElem?_cons_zero]; rfl)) (fun K hK => ?_) AllReadyH.nil
            go_simp
            have NS := N.store (each := each)
            have k9 := NS.k8.2.1
            refine hK.out _ _ (by first | (dsimp only; exact k9) | (exact k9)) (fun hHeld => ?_)
            clear hK K
            refine wpAnyH_done (by kernel_rfl) ?_ _
            go_wp2_with fail
            go_meet
            exact ⟨_, _, _, _, _, rfl, NS⟩
        · go_simp
          generalize hy : y44.alloc _ = y47
          replace N := N.stk hy
          have k9 := N.k8.here.2.1
          refine hK.out _ _ (by first | (dsimp only; exact k9) | (exact k9)) (fun hHeld => ?_)
          clear hK K k9
          try simp only [Act.put, List.setIfInBounds_toArray, List.set_cons_zero, List.set_cons_succ]
          refine wpAnyH_ready (rs := [1]) (by kernel_rfl) (by simp) ?_
          refine AllReadyH.cons (by (simp only [List.getElem?_toArray, List.getElem?_cons_succ, List.getElem?_cons_zero]; rfl)) (fun K hK => ?_) AllReadyH.nil
          · go_simp
            refine (HR.out _ N.lb).mono ?_
            rintro e y48 ⟨fv, rfl, of, b9⟩
            obtain ⟨af, cf, rfl⟩ := of.form
            replace N := N.fun_ of b9
            have k9 := N.k8.here.2.1
            refine hK.out _ _ (by first | (dsimp only; exact k9) | (exact k9)) (fun hHeld => ?_)
            clear hK K k9
            try simp only [Act.put, List.setIfInBounds_toArray, List.set_cons_zero, List.set_cons_succ]
            refine tkH (i := 7) ?_
            have c10 := (N.m _ rfl).1.2.1
            have f10 := (N.m _ rfl).1.2.2
            refine wpAnyH_ready (rs := [9]) (by kernel_rfl) (by simp) ?_
            refine AllReadyH.cons (by (simp only [List.getElem?_toArray, List.getElem?_cons_succ, List.getElem?_cons_zero]; rfl)) (fun K hK => ?_) AllReadyH.nil
            go_simp
            have NS := N.store (each := each)
            have k9 := NS.k8.2.1
            refine hK.out _ _ (by first | (dsimp only; exact k9) | (exact k9)) (fun hHeld => ?_)
            clear hK K
            refine wpAnyH_done (by kernel_rfl) ?_ _
            go_wp2_with fail
            go_meet
            exact ⟨_, _, _, _, _, rfl, NS⟩
    · go_simp
      generalize hy : y0.alloc _ = y49
      replace N := N.box hy
      have k9 := N.k8.here.2.1
      refine hK.out _ _ (by first | (dsimp only; exact k9) | (exact k9)) (fun hHeld => ?_)
      clear hK K k9
      try simp only [Act.put, List.setIfInBounds_toArray, List.set_cons_zero, List.set_cons_succ]
      refine wpAnyH_ready (rs := [1, 3, 5]) (by kernel_rfl) (by simp) ?_
      refine AllReadyH.cons (by (simp only [List.getElem?_toArray, List.getElem?_cons_succ, List.getElem?_cons_zero]; rfl)) (fun K hK => ?_) (AllReadyH.cons (by (simp only [List.getElem?_toArray, List.getElem?_cons_succ, List.getElem?_cons_zero]; rfl)) (fun K hK => ?_) (AllReadyH.cons (by (simp only [List.getElem?_toArray, List.getElem?_cons_succ, List.getElem?_cons_zero]; rfl)) (fun K hK => ?_) AllReadyH.nil))
      · go_simp
        refine (HR.out _ N.lb).mono ?_
        rintro e y50 ⟨fv, rfl, of, b9⟩
        obtain ⟨af, cf, rfl⟩ := of.form
        replace N := N.fun_ of b9
        have k9 := N.k8.here.2.1
        refine hK.out _ _ (by first | (dsimp only; exact k9) | (exact k9)) (fun hHeld => ?_)
        clear hK K k9
        try simp only [Act.put, List.setIfInBounds_toArray, List.set_cons_zero, List.set_cons_succ]
        refine wpAnyH_ready (rs := [3, 5]) (by kernel_rfl) (by simp) ?_
        refine AllReadyH.cons (by (simp only [List.getElem?_toArray, List.getElem?_cons_succ, List.getElem?_cons_zero]; rfl)) (fun K hK => ?_) (AllReadyH.cons (by (simp only [List.getElem?_toArray, List.getElem?_cons_succ, List.getElem?_cons_zero]; rfl)) (fun K hK => ?_) AllReadyH.nil)
        · go_simp
          generalize hy : y50.alloc _ = y51
          replace N := N.stk hy
          have k9 := N.k8.here.2.1
          refine hK.out _ _ (by first | (dsimp only; exact k9) | (exact k9)) (fun hHeld => ?_)
          clear hK K k9
          try simp only [Act.put, List.setIfInBounds_toArray, List.set_cons_zero, List.set_cons_succ]
          refine wpAnyH_ready (rs := [5]) (by kernel_rfl) (by simp) ?_
          refine AllReadyH.cons (by (simp only [List.getElem?_toArray, List.getElem?_cons_succ, List.getElem?_cons_zero]; rfl)) (fun K hK => ?_) AllReadyH.nil
          · go_simp
            generalize hy : y51.alloc _ = y52
            replace N := N.cal hy
            have k9 := N.k8.here.2.1
            refine hK.out _ _ (by first | (dsimp only; exact k9) | (exact k9)) (fun hHeld => ?_)
            clear hK K k9
            try simp only [Act.put, List.setIfInBounds_toArray, List.set_cons_zero, List.set_cons_succ]
            refine tkH (i := 7) ?_
            have c10 := (N.m _ rfl).1.2.1
            have f10 := (N.m _ rfl).1.2.2
            refine wpAnyH_ready (rs := [9]) (by kernel_rfl) (by simp) ?_
            refine AllReadyH.cons (by (simp only [List.getElem?_toArray, List.getElem?_cons_succ, List.getElem?_cons_zero]; rfl)) (fun K hK => ?_) AllReadyH.nil
            go_simp
            have NS := N.store (each := each)
            have k9 := NS.k8.2.1
            refine hK.out _ _ (by first | (dsimp only; exact k9) | (exact k9)) (fun hHeld => ?_)
            clear hK K
            refine wpAnyH_done (by kernel_rfl) ?_ _
            go_wp2_with fail
            go_meet
            exact ⟨_, _, _, _, _, rfl, NS⟩
        · go_simp
          generalize hy : y50.alloc _ = y53
          replace N := N.cal hy
          have k9 := N.k8.here.2.1
          refine hK.out _ _ (by first | (dsimp only; exact k9) | (exact k9)) (fun hHeld => ?_)
          clear hK K k9
          try simp only [Act.put, List.setIfInBounds_toArray, List.set_cons_zero, List.set_cons_succ]
          refine wpAnyH_ready (rs := [3]) (by kernel_rfl) (by simp) ?_
          refine AllReadyH.cons (by (simp only [List.getElem?_toArray, List.getElem?_cons_succ, List.getElem?_cons_zero]; rfl)) (fun K hK => ?_) AllReadyH.nil
          · go_simp
            generalize hy : y53.alloc _ = y54
            replace N := N.stk hy
            have k9 := N.k8.here.2.1
            refine hK.out _ _ (by first | (dsimp only; exact k9) | (exact k9)) (fun hHeld => ?_)
            clear hK K k9
            try simp only [Act.put, List.setIfInBounds_toArray, List.set_cons_zero, List.set_cons_succ]
            refine tkH (i := 7) ?_
            have c10 := (N.m _ rfl).1.2.1
            have f10 := (N.m _ rfl).1.2.2
            refine wpAnyH_ready (rs := [9]) (by kernel_rfl) (by simp) ?_
            refine AllReadyH.cons (by (simp only [List.getElem?_toArray, List.getElem?_cons_succ, List.getElem?_cons_zero]; rfl)) (fun K hK => ?_) AllReadyH.nil
            go_simp
            have NS := N.store (each := each)
            have k9 := NS.k8.2.1
            refine hK.out _ _ (by first | (dsimp only; exact k9) | (exact k9)) (fun hHeld => ?_)
            clear hK K
            refine wpAnyH_done (by kernel_rfl) ?_ _
            go_wp2_with fail
            go_meet
            exact ⟨_, _, _, _, _, rfl, NS⟩
      · go_simp
        generalize hy : y49.alloc _ = y55
        replace N := N.stk hy
        have k9 := N.k8.here.2.1
        refine hK.out _ _ (by first | (dsimp only; exact k9) | (exact k9)) (fun hHeld => ?_)
        clear hK K k9
        try simp only [Act.put, List.setIfInBounds_toArray, List.set_cons_zero, List.set_cons_succ]
        refine wpAnyH_ready (rs := [1, 5]) (by kernel_rfl) (by simp) ?_
        refine AllReadyH.cons (by (simp only [List.getElem?_toArray, List.getElem?_cons_succ, List.getElem?_cons_zero]; rfl)) (fun K hK => ?_) (AllReadyH.cons (by (simp only [List.getElem?_toArray, List.getElem?_cons_succ, List.getElem?_cons_zero]; rfl)) (fun K hK => ?_) AllReadyH.nil)
        · go_simp
          refine (HR.out _ N.lb).mono ?_
          rintro e y56 ⟨fv, rfl, of, b9⟩
          obtain ⟨af, cf, rfl⟩ := of.form
          replace N := N.fun_ of b9
          have k9 := N.k8.here.2.1
          refine hK.out _ _ (by first | (dsimp only; exact k9) | (exact k9)) (fun hHeld => ?_)
          clear hK K k9
          try simp only [Act.put, List.setIfInBounds_toArray, List.set_cons_zero, List.set_cons_succ]
          refine wpAnyH_ready (rs := [5]) (by kernel_rfl) (by simp) ?_
          refine AllReadyH.cons (by (simp only [List.getElem?_toArray, List.getElem?_cons_succ, List.getElem?_cons_zero]; rfl)) (fun K hK => ?_) AllReadyH.nil
          · go_simp
            generalize hy : y56.alloc _ = y57
            replace N := N.cal hy
            have k9 := N.k8.here.2.1
            refine hK.out _ _ (by first | (dsimp only; exact k9) | (exact k9)) (fun hHeld => ?_)
            clear hK K k9
            try simp only [Act.put, List.setIfInBounds_toArray, List.set_cons_zero, List.set_cons_succ]
            refine tkH (i := 7) ?_
            have c10 := (N.m _ rfl).1.2.1
            have f10 := (N.m _ rfl).1.2.2
            refine wpAnyH_ready (rs := [9]) (by kernel_rfl) (by simp) ?_
            refine AllReadyH.cons (by (simp only [List.getElem?_toArray, List.getElem?_cons_succ, List.getElem?_cons_zero]; rfl)) (fun K hK => ?_) AllReadyH.nil
            go_simp
            have NS := N.store (each := each)
            have k9 := NS.k8.2.1
            refine hK.out _ _ (by first | (dsimp only; exact k9) | (exact k9)) (fun hHeld => ?_)
            clear hK K
            refine wpAnyH_done (by kernel_rfl) ?_ _
            go_wp2_with fail
            go_meet
            exact ⟨_, _, _, _, _, rfl, NS⟩
        · go_simp
          generalize hy : y55.alloc _ = y58
          replace N := N.cal hy
          have k9 := N.k8.here.2.1
          refine hK.out _ _ (by first | (dsimp only; exact k9) | (exact k9)) (fun hHeld => ?_)
          clear hK K k9
          try simp only [Act.put, List.setIfInBounds_toArray, List.set_cons_zero, List.set_cons_succ]
          refine wpAnyH_ready (rs := [1]) (by kernel_rfl) (by simp) ?_
          refine AllReadyH.cons (by (simp only [List.getElem?_toArray, List.getElem?_cons_succ, List.getElem?_cons_zero]; rfl)) (fun K hK => ?_) AllReadyH.nil
          · go_simp
            refine (HR.out _ N.lb).mono ?_
            rintro e y59 ⟨fv, rfl, of, b9⟩
            obtain ⟨af, cf, rfl⟩ := of.form
            replace N := N.fun_ of b9
            have k9 := N.k8.here.2.1
            refine hK.out _ _ (by first | (dsimp only; exact k9) | (exact k9)) (fun hHeld => ?_)
            clear hK K k9
            try simp only [Act.put, List.setIfInBounds_toArray, List.set_cons_zero, List.set_cons_succ]
            refine tkH (i := 7) ?_
            have c10 := (N.m _ rfl).1.2.1
            have f10 := (N.m _ rfl).1.2.2
            refine wpAnyH_ready (rs := [9]) (by kernel_rfl) (by simp) ?_
            refine AllReadyH.cons (by (simp only [List.getElem?_toArray, List.getElem?_cons_succ, List.getElem?_cons_zero]; rfl)) (fun K hK => ?_) AllReadyH.nil
            go_simp
            have NS := N.store (each := each)
            have k9 := NS.k8.2.1
            refine hK.out _ _ (by first | (dsimp only; exact k9) | (exact k9)) (fun hHeld => ?_)
            clear hK K
            refine wpAnyH_done (by kernel_rfl) ?_ _
            go_wp2_with fail
            go_meet
            exact ⟨_, _, _, _, _, rfl, NS⟩
      · go_simp
        generalize hy : y49.alloc _ = y60
        replace N := N.cal hy
        have k9 := N.k8.here.2.1
        refine hK.out _ _ (by first | (dsimp only; exact k9) | (exact k9)) (fun hHeld => ?_)
        clear hK K k9
        try simp only [Act.put, List.setIfInBounds_toArray, List.set_cons_zero, List.set_cons_succ]
        refine wpAnyH_ready (rs := [1, 3]) (by kernel_rfl) (by simp) ?_
        refine AllReadyH.cons (by (simp only [List.getElem?_toArray, List.getElem?_cons_succ, List.getElem?_cons_zero]; rfl)) (fun K hK => ?_) (AllReadyH.cons (by (simp only [List.getElem?_toArray, List.getElem?_cons_succ, List.getElem?_cons_zero]; rfl)) (fun K hK => ?_) AllReadyH.nil)
        · go_simp
          refine (HR.out _ N.lb).mono ?_
          rintro e y61 ⟨fv, rfl, of, b9⟩
          obtain ⟨af, cf, rfl⟩ := of.form
          replace N := N.fun_ of b9
          have k9 := N.k8.here.2.1
          refine hK.out _ _ (by first | (dsimp only; exact k9) | (exact k9)) (fun hHeld => ?_)
          clear hK K k9
          try simp only [Act.put, List.setIfInBounds_toArray, List.set_cons_zero, List.set_cons_succ]
          refine wpAnyH_ready (rs := [3]) (by kernel_rfl) (by simp) ?_
          refine AllReadyH.cons (by (simp only [List.getElem?_toArray, List.getElem?_cons_succ, List.getElem?_cons_zero]; rfl)) (fun K hK => ?_) AllReadyH.nil
          · go_simp
            generalize hy : y61.alloc _ = y62
            replace N := N.stk hy
            have k9 := N.k8.here.2.1
            refine hK.out _ _ (by first | (dsimp only; exact k9) | (exact k9)) (fun hHeld => ?_)
            clear hK K k9
            try simp only [Act.put, List.setIfInBounds_toArray, List.set_cons_zero, List.set_cons_succ]
            refine tkH (i := 7) ?_
            have c10 := (N.m _ rfl).1.2.1
            have f10 := (N.m _ rfl).1.2.2
            refine wpAnyH_ready (rs := [9]) (by kernel_rfl) (by simp) ?_
            refine AllReadyH.cons (by (simp only [List.getElem?_toArray, List.getElem?_cons_succ, List.getElem?_cons_zero]; rfl)) (fun K hK => ?_) AllReadyH.nil
            go_simp
            have NS := N.store (each := each)
            have k9 := NS.k8.2.1
            refine hK.out _ _ (by first | (dsimp only; exact k9) | (exact k9)) (fun hHeld => ?_)
            clear hK K
            refine wpAnyH_done (by kernel_rfl) ?_ _
            go_wp2_with fail
            go_meet
            exact ⟨_, _, _, _, _, rfl, NS⟩
        · go_simp
          generalize hy : y60.alloc _ = y63
          replace N := N.stk hy
          have k9 := N.k8.here.2.1
          refine hK.out _ _ (by first | (dsimp only; exact k9) | (exact k9)) (fun hHeld => ?_)
          clear hK K k9
          try simp only [Act.put, List.setIfInBounds_toArray, List.set_cons_zero, List.set_cons_succ]
          refine wpAnyH_ready (rs := [1]) (by kernel_rfl) (by simp) ?_
          refine AllReadyH.cons (by (simp only [List.getElem?_toArray, List.getElem?_cons_succ, List.getElem?_cons_zero]; rfl)) (fun K hK => ?_) AllReadyH.nil
          · go_simp
            refine (HR.out _ N.lb).mono ?_
            rintro e y64 ⟨fv, rfl, of, b9⟩
            obtain ⟨af, cf, rfl⟩ := of.form
            replace N := N.fun_ of b9
            have k9 := N.k8.here.2.1
            refine hK.out _ _ (by first | (dsimp only; exact k9) | (exact k9)) (fun hHeld => ?_)
            clear hK K k9
            try simp only [Act.put, List.setIfInBounds_toArray, List.set_cons_zero, List.set_cons_succ]
            refine tkH (i := 7) ?_
            have c10 := (N.m _ rfl).1.2.1
            have f10 := (N.m _ rfl).1.2.2
            refine wpAnyH_ready (rs := [9]) (by kernel_rfl) (by simp) ?_
            refine AllReadyH.cons (by (simp only [List.getElem?_toArray, List.getElem?_cons_succ, List.getElem?_cons_zero]; rfl)) (fun K hK => ?_) AllReadyH.nil
            go_simp
            have NS := N.store (each := each)
            have k9 := NS.k8.2.1
            refine hK.out _ _ (by first | (dsimp only; exact k9) | (exact k9)) (fun hHeld => ?_)
            clear hK K
            refine wpAnyH_done (by kernel_rfl) ?_ _
            go_wp2_with fail
            go_meet
            exact ⟨_, _, _, _, _, rfl, NS⟩
  case rest =>
    obtain ⟨fv, hv, sv, cv, g, rfl, NS⟩ := hcut
    clear o1 k6 k8 bx
    obtain ⟨LB, k6, km, NR, hg, _⟩ := NS
    obtain ⟨fa9, fc9, rfl⟩ := NR.f.form
    obtain ⟨ha9, hc9, rfl⟩ := own_form NR.z
    obtain ⟨sa9, sc9, rfl⟩ := own_form NR.s
    obtain ⟨ca9, cc9, rfl⟩ := own_form NR.c
    have qm := km.2.1
    go_wp2_with fail
    clear qm
    refine (HO.out _ _ _ _ _ NR).mono ?_
    rintro e w8 ⟨rfl, b8⟩
    replace k6 := k6.below b8 k6.1
    replace km := km.below b8 km.1
    replace LB := LB.trans (b8.mono LB.size)
    have NR2 : NewR0 (w.heap.size + 1) w8 _ _ _ _ fs half := ⟨NR.f.below b8, own_below NR.z b8 (own_lt NR.z), own_below NR.s b8 (own_lt NR.s), own_below NR.c b8 (own_lt NR.c)⟩
    clear NR b8 HO HR HV HH
    have qm := km.2.1
    have q6 := k6.2.1
    have f6 := k6.2.2
    have y6 := k6.1
    have NR3 := Lib.hid NR2
    have LB3 := Lib.hid LB
    have K3 := Lib.hid k6
    clear NR2 LB k6
    have hne : g ≠ w.heap.size := by omega
    go_wp2
    refine bodyPost_ret (v := .tuple #[.agg #[.slice fa9 fs.length fc9, .slice ha9 (2 * half) hc9, .int .i64 half, .int .i64 0, .int .i64 0, .slice sa9 2 sc9, .slice ca9 1 cc9, .slice none 0 0, .int .i64 0, .bool each], .bool true]) ?_ rfl ⟨_, _, _, _, rfl, ?_, ?_⟩
    · have hx := (((((((((K3.out.set 0 (by simp) (.slice fa9 fs.length fc9)).set 1 (by simp) (.slice ha9 (2 * half) hc9)).set 2 (by simp) (.int .i64 half)).set 3 (by simp) (.int .i64 0)).set 4 (by simp) (.int .i64 0)).set 5 (by simp) (.slice sa9 2 sc9)).set 6 (by simp) (.slice ca9 1 cc9)).set 7 (by simp) (.slice none 0 0)).set 8 (by simp) (.int .i64 0)).set 9 (by simp) (.bool each)
      have hc := hx.2.1
      simp [results, Try.results5, go_sem, hc]
    · repeat (with_reducible refine NewR0.setCell ?_ (by exact Nat.lt_succ_self _) _)
      exact NR3.out
    · repeat (with_reducible refine Below.setCell ?_ (by exact Nat.le_refl _) _)
      exact LB3.out

end Go.Proofs.Ytlkdlcpfcacigaa
