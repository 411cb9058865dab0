/- l18Collect: blocks moved one by one into the other half. -/
import Derived.Test.YtmcoidnonmmpjaaMoveS
import Derived.Test.YtmcoidnonmmpjaaHand
import Derived.Test.YtmcoidnonmmpjaaShapeP
import Derived.Deep.DeepCutAuto
import Derived.Deep.CutRange
namespace Go.Proofs.Ytmcoidnonmmpjaa
open Go.RowKit
set_option linter.unusedVariables false
set_option linter.unusedSimpArgs false

set_option maxHeartbeats 4000000 in
set_option maxRecDepth 100000 in
theorem l18Collect_any {B : Nat} (v vr : Value) (ws rs : List Int) (h b n : Nat) (ps : List Nat) (w : World) (hR : Right ws h b n ps) (hr : Rd B .i64 w v ws) (hw : intsOk ws) (hq : Rd B .i64 w vr rs) (hx : rs.all (wordIn ps) = true) (hrl : rs.length ≤ 4294967296) :
    Calls Try.prog 59 #[.agg #[v, .int .i64 h, .int .i64 b, .int .i64 n], vr] w fun e w' => ∃ uv qv, e = .returned (.tuple #[.agg #[uv, .int .i64 h, .int .i64 (h - b : Nat), .int .i64 (h - b + (raw ws (orderOf ws rs)).length : Nat)], qv]) ∧
      w'.ownsRow w.heap.size 3 1 uv ws.length ((lay (h - b) ws.length (mvd ws (h - b) (orderOf ws rs) (orderOf ws rs))).map (Value.int .i64)) ∧
      w'.ownsRow w.heap.size 3 1 qv rs.length ((rs.map (mv ws (h - b) (orderOf ws rs))).map (Value.int .i64)) ∧ Below w.heap.size w w' ∧ Diff uv qv := by
  obtain ⟨i0, hi, hz0, hz1, hz2⟩ := info_parts Try.infoI2
  have hN0 := hR.n_le
  have HNL := Lib.hid hR.frame.len
  have hNz : 0 < ws.length := by have := hR.frame.h0; have := HNL.out; omega
  obtain ⟨hN1, hN2⟩ := hN0
  have hbh : b ≤ h := by have := hR.frame.base; omega
  obtain ⟨b', hb'⟩ : ∃ b', h - b = b' := ⟨_, rfl⟩
  have hbb : b' ≤ 3000 ∧ h ≤ 3000 := by have := hR.frame.h1; omega
  have hb1 : b' ≤ h := by omega
  have hsub := Lib.hid (show (h : Int) - (b : Int) = (b' : Int) by omega)
  rw [hb']
  have HBE := Lib.hid hb'
  clear hb'
  have hbN : b' + h ≤ ws.length := by have := HNL.out; omega
  have hO := order_ok hR hx
  have hcr := order_roots ws rs
  have hf0 : Hid (bfs ws ws.length 0 (seeL [] rs) = orderOf ws rs) := Lib.hid rfl
  obtain ⟨o, ho⟩ : ∃ o, orderOf ws rs = o := ⟨_, rfl⟩
  rw [ho] at hO hcr hf0 ⊢
  have RW := Lib.hid (fun (W : World) (hb : Below w.heap.size w W) => hr.below' hb)
  have RQ := Lib.hid (fun (W : World) (hb : Below w.heap.size w W) => hq.below' hb)
  obtain ⟨a, cap, rfl⟩ := hr.form
  obtain ⟨qa, qc, rfl⟩ := hq.form
  have HO := Lib.hid hO
  have HRi := Lib.hid hR
  have HXR := Lib.hid hx
  have HWI := Lib.hid hw
  have HF0 := hf0
  clear hr hq ho hx hO hR hw
  go_enter Try.func59, Try.ntmps59
  go_wp2_with fail
  generalize hx : (w.alloc _).alloc _ = x9
  obtain ⟨bb, k0, k4, sx⟩ := alloc_box2 hx
  clear hx
  have q1 := k0.2.1 1
  have q2 := k0.2.1 2
  simp at q1 q2
  have y0 := k0.1
  have K0 := Lib.hid k0
  have K4 := Lib.hid k4
  have BB := Lib.hid bb
  have hxs : w.heap.size + 2 ≤ x9.heap.size := Nat.le_of_eq sx.symm
  clear k0 k4 bb sx
  go_cut [6] from 16 to 32 (fun p W => ∃ g8 gr : Nat, p = .pointer (some ⟨g8, 0, none⟩) ∧ Below x9.heap.size x9 W ∧ x9.heap.size ≤ g8 ∧ x9.heap.size ≤ gr ∧ g8 ≠ gr ∧ Bx W g8 #[.slice (some ⟨gr, 0, none⟩) ws.length ws.length, .int .i64 h, .int .i64 b', .int .i64 b'] ∧
    W.ownsRow x9.heap.size 3 1 (.slice (some ⟨gr, 0, none⟩) ws.length ws.length) ws.length (List.replicate ws.length (.int .i64 0)))
  case first =>
    refine wp_region_held_drew (S := (fun w' => w'.cell? ⟨w.heap.size, 1, none⟩ = some (.int .i64 h) ∧ w'.cell? ⟨w.heap.size, 2, none⟩ = some (.int .i64 b))) (by kernel_rfl) (by first | (dsimp only; exact ⟨q1, q2⟩) | (exact ⟨q1, q2⟩)) (fun hHeld => ?_)
    have e1 : IntKind.i64.wrap ((h : Int) - (b : Int)) = (b' : Int) := by rw [hsub.out]; exact IntWalk.i64_in _ (by omega)
    have e0 : IntKind.i64.wrap (2 * (h : Int)) = (ws.length : Int) := by rw [IntWalk.i64_in _ (by omega)]; have := HNL.out; omega
    refine' wpAnyH_take (i := 0) (oi := _) (v := _) ?hi0n66 (by kernel_rfl) (by kernel_rfl) (by kernel_rfl) ?hQ0n66 ?hy0n66 (by assumption) ?rest0n66
    case hi0n66 => (simp only [List.getElem?_toArray, List.getElem?_cons_succ, List.getElem?_cons_zero]; rfl)
    case hQ0n66 => exact fun _ _ _ h => h
    case hy0n66 => exact Or.inl ⟨by rfl, by (intro w hSw; (try dsimp only at hSw); go_simp; (try with_reducible rfl))⟩
    try simp only [Act.put, List.setIfInBounds_toArray, List.set_cons_zero, List.set_cons_succ]
    refine' wpAnyH_take (i := 1) (oi := _) (v := _) ?hi1n66 (by kernel_rfl) (by kernel_rfl) (by kernel_rfl) ?hQ1n66 ?hy1n66 (by assumption) ?rest1n66
    case hi1n66 => (simp only [List.getElem?_toArray, List.getElem?_cons_succ, List.getElem?_cons_zero]; rfl)
    case hQ1n66 => exact fun _ _ _ h => h
    case hy1n66 => exact Or.inl ⟨by rfl, by (intro w hSw; (try dsimp only at hSw); go_simp; (try with_reducible rfl))⟩
    try simp only [Act.put, List.setIfInBounds_toArray, List.set_cons_zero, List.set_cons_succ]
    refine' wpAnyH_take (i := 2) (oi := _) (v := _) ?hi2n66 (by kernel_rfl) (by kernel_rfl) (by kernel_rfl) ?hQ2n66 ?hy2n66 (by assumption) ?rest2n66
    case hi2n66 => (simp only [List.getElem?_toArray, List.getElem?_cons_succ, List.getElem?_cons_zero]; rfl)
    case hQ2n66 => exact fun _ _ _ h => h
    case hy2n66 => exact Or.inl ⟨by rfl, by (intro w hSw; (try dsimp only at hSw); go_simp; (try with_reducible rfl))⟩
    try simp only [Act.put, List.setIfInBounds_toArray, List.set_cons_zero, List.set_cons_succ]
    refine' wpAnyH_take (i := 4) (oi := _) (v := _) ?hi4n66 (by kernel_rfl) (by kernel_rfl) (by kernel_rfl) ?hQ4n66 ?hy4n66 (by assumption) ?rest4n66
    case hi4n66 => (simp only [List.getElem?_toArray, List.getElem?_cons_succ, List.getElem?_cons_zero]; rfl)
    case hQ4n66 => exact fun _ _ _ h => h
    case hy4n66 => exact Or.inl ⟨by rfl, by (intro w hSw; (try dsimp only at hSw); go_simp; (try with_reducible rfl))⟩
    try simp only [Act.put, List.setIfInBounds_toArray, List.set_cons_zero, List.set_cons_succ]
    refine' wpAnyH_take (i := 5) (oi := _) (v := _) ?hi5n66 (by kernel_rfl) (by kernel_rfl) (by kernel_rfl) ?hQ5n66 ?hy5n66 (by assumption) ?rest5n66
    case hi5n66 => (simp only [List.getElem?_toArray, List.getElem?_cons_succ, List.getElem?_cons_zero]; rfl)
    case hQ5n66 => exact fun _ _ _ h => h
    case hy5n66 => exact Or.inl ⟨by rfl, by (intro w hSw; (try dsimp only at hSw); go_simp; (try with_reducible rfl))⟩
    try simp only [Act.put, List.setIfInBounds_toArray, List.set_cons_zero, List.set_cons_succ]
    refine' wpAnyH_take (i := 6) (oi := _) (v := _) ?hi6n66 (by kernel_rfl) (by kernel_rfl) (by kernel_rfl) ?hQ6n66 ?hy6n66 (by assumption) ?rest6n66
    case hi6n66 => (simp only [List.getElem?_toArray, List.getElem?_cons_succ, List.getElem?_cons_zero]; rfl)
    case hQ6n66 => exact fun _ _ _ h => h
    case hy6n66 => exact Or.inl ⟨by rfl, by (intro w hSw; (try dsimp only at hSw); go_simp; (try with_reducible rfl))⟩
    try simp only [Act.put, List.setIfInBounds_toArray, List.set_cons_zero, List.set_cons_succ]
    refine' wpAnyH_take (i := 7) (oi := _) (v := _) ?hi7n66 (by kernel_rfl) (by kernel_rfl) (by kernel_rfl) ?hQ7n66 ?hy7n66 (by assumption) ?rest7n66
    case hi7n66 => (simp only [List.getElem?_toArray, List.getElem?_cons_succ, List.getElem?_cons_zero]; rfl)
    case hQ7n66 => exact fun _ _ _ h => h
    case hy7n66 => exact Or.inl ⟨by rfl, by (intro w hSw; (try dsimp only at hSw); go_simp; (try with_reducible rfl))⟩
    try simp only [Act.put, List.setIfInBounds_toArray, List.set_cons_zero, List.set_cons_succ]
    refine' wpAnyH_take (i := 8) (oi := _) (v := _) ?hi8n66 (by kernel_rfl) (by kernel_rfl) (by kernel_rfl) ?hQ8n66 ?hy8n66 (by assumption) ?rest8n66
    case hi8n66 => (simp only [List.getElem?_toArray, List.getElem?_cons_succ, List.getElem?_cons_zero]; rfl)
    case hQ8n66 => exact fun _ _ _ h => h
    case hy8n66 => exact Or.inl ⟨by rfl, by (intro w hSw; (try dsimp only at hSw); go_simp; (try with_reducible rfl))⟩
    try simp only [Act.put, List.setIfInBounds_toArray, List.set_cons_zero, List.set_cons_succ]
    refine' wpAnyH_take (i := 9) (oi := _) (v := _) ?hi9n66 (by kernel_rfl) (by kernel_rfl) (by kernel_rfl) ?hQ9n66 ?hy9n66 (by assumption) ?rest9n66
    case hi9n66 => (simp only [List.getElem?_toArray, List.getElem?_cons_succ, List.getElem?_cons_zero]; rfl)
    case hQ9n66 => exact fun _ _ _ h => h
    case hy9n66 => exact Or.inl ⟨by rfl, by (intro w hSw; (try dsimp only at hSw); go_simp; (try with_reducible rfl))⟩
    try simp only [Act.put, List.setIfInBounds_toArray, List.set_cons_zero, List.set_cons_succ]
    refine' wpAnyH_take (i := 10) (oi := _) (v := _) ?hi10n66 (by kernel_rfl) (by kernel_rfl) (by kernel_rfl) ?hQ10n66 ?hy10n66 (by assumption) ?rest10n66
    case hi10n66 => (simp only [List.getElem?_toArray, List.getElem?_cons_succ, List.getElem?_cons_zero]; rfl)
    case hQ10n66 => exact fun _ _ _ h => h
    case hy10n66 => exact Or.inl ⟨by rfl, by (intro w hSw; (try dsimp only at hSw); go_simp; (try with_reducible rfl))⟩
    try simp only [Act.put, List.setIfInBounds_toArray, List.set_cons_zero, List.set_cons_succ]
    refine' wpAnyH_take (i := 11) (oi := _) (v := _) ?hi11n66 (by kernel_rfl) (by kernel_rfl) (by kernel_rfl) ?hQ11n66 ?hy11n66 (by assumption) ?rest11n66
    case hi11n66 => (simp only [List.getElem?_toArray, List.getElem?_cons_succ, List.getElem?_cons_zero]; rfl)
    case hQ11n66 => exact fun _ _ _ h => h
    case hy11n66 => exact Or.inl ⟨by rfl, by (intro w hSw; (try dsimp only at hSw); go_simp; (try with_reducible rfl))⟩
    try simp only [Act.put, List.setIfInBounds_toArray, List.set_cons_zero, List.set_cons_succ]
    refine' wpAnyH_take (i := 12) (oi := _) (v := _) ?hi12n66 (by kernel_rfl) (by kernel_rfl) (by kernel_rfl) ?hQ12n66 ?hy12n66 (by assumption) ?rest12n66
    case hi12n66 => (simp only [List.getElem?_toArray, List.getElem?_cons_succ, List.getElem?_cons_zero]; rfl)
    case hQ12n66 => exact fun _ _ _ h => h
    case hy12n66 => exact Or.inl ⟨by rfl, by (intro w hSw; (try dsimp only at hSw); go_simp; (try with_reducible rfl))⟩
    try simp only [Act.put, List.setIfInBounds_toArray, List.set_cons_zero, List.set_cons_succ]
    refine' wpAnyH_take (i := 13) (oi := _) (v := _) ?hi13n66 (by kernel_rfl) (by kernel_rfl) (by kernel_rfl) ?hQ13n66 ?hy13n66 (by assumption) ?rest13n66
    case hi13n66 => (simp only [List.getElem?_toArray, List.getElem?_cons_succ, List.getElem?_cons_zero]; rfl)
    case hQ13n66 => exact fun _ _ _ h => h
    case hy13n66 => exact Or.inl ⟨by rfl, by (intro w hSw; (try dsimp only at hSw); go_simp; (try with_reducible rfl))⟩
    try simp only [Act.put, List.setIfInBounds_toArray, List.set_cons_zero, List.set_cons_succ]
    refine' wpAnyH_take (i := 14) (oi := _) (v := _) ?hi14n66 (by kernel_rfl) (by kernel_rfl) (by kernel_rfl) ?hQ14n66 ?hy14n66 (by assumption) ?rest14n66
    case hi14n66 => (simp only [List.getElem?_toArray, List.getElem?_cons_succ, List.getElem?_cons_zero]; rfl)
    case hQ14n66 => exact fun _ _ _ h => h
    case hy14n66 => exact Or.inl ⟨by rfl, by (intro w hSw; (try dsimp only at hSw); go_simp; (try with_reducible rfl))⟩
    try simp only [Act.put, List.setIfInBounds_toArray, List.set_cons_zero, List.set_cons_succ]
    refine' wpAnyH_take (i := 15) (oi := _) (v := _) ?hi15n66 (by kernel_rfl) (by kernel_rfl) (by kernel_rfl) ?hQ15n66 ?hy15n66 (by assumption) ?rest15n66
    case hi15n66 => (simp only [List.getElem?_toArray, List.getElem?_cons_succ, List.getElem?_cons_zero]; rfl)
    case hQ15n66 => exact fun _ _ _ h => h
    case hy15n66 => exact Or.inl ⟨by rfl, by (intro w hSw; (try dsimp only at hSw); go_simp; (try with_reducible rfl))⟩
    try simp only [Act.put, List.setIfInBounds_toArray, List.set_cons_zero, List.set_cons_succ]
    clear e0 e1
    have hxd : x9.drew.heap.size = x9.heap.size := World.size_drew _
    generalize hxw : x9.drew = xd at hHeld hxd
    have bxd : Below x9.heap.size x9 xd := by rw [← hxw]; exact (Below.refl _ _).drew
    clear hxw
    refine wpAnyH_ready (rs := [3, 17]) (by kernel_rfl) (by simp) ?_
    refine AllReadyH.cons (by (simp only [List.getElem?_toArray, List.getElem?_cons_succ, List.getElem?_cons_zero]; rfl)) (fun K hK => ?_) (AllReadyH.cons (by (simp only [List.getElem?_toArray, List.getElem?_cons_succ, List.getElem?_cons_zero]; rfl)) (fun K hK => ?_) AllReadyH.nil)
    · -- the row first
      rw [if_pos (by rfl)]
      refine step_make_full _ (.tmp 18) (.tmp 18) 24 rfl xd.heap.size 3 i0 (.int .i64 0) 1 Try.underlying24 hi hz0 hz1 .i64 .i64 _ _ ws.length rfl rfl rfl rfl (by rw [hz2]; omega) (by unfold maxLen; omega) (Nat.le_refl _) ?_
      intro w2 hown hgrow
      have b9 : Below xd.heap.size xd w2 := (Below.refl _ _).grown hgrow (Nat.le_refl _) (by simp)
      rw [show (Value.int IntKind.i64 0).cells = #[.int .i64 0] from rfl, Nat.mul_one, toList_madeCells_one] at hown
      refine hK.out _ _ (by first | (dsimp only; exact ⟨(b9.cell (by dsimp only; omega)).trans hHeld.1, (b9.cell (by dsimp only; omega)).trans hHeld.2⟩) | (exact ⟨(b9.cell (by dsimp only; omega)).trans hHeld.1, (b9.cell (by dsimp only; omega)).trans hHeld.2⟩)) (fun hHeld => ?_)
      clear hK K
      try simp only [Act.put, List.setIfInBounds_toArray, List.set_cons_zero, List.set_cons_succ]
      refine' wpAnyH_take (i := 16) (oi := _) (v := _) ?hi16n83 (by kernel_rfl) (by kernel_rfl) (by kernel_rfl) ?hQ16n83 ?hy16n83 (by assumption) ?rest16n83
      case hi16n83 => (simp only [List.getElem?_toArray, List.getElem?_cons_succ, List.getElem?_cons_zero]; rfl)
      case hQ16n83 => exact fun _ _ _ h => h
      case hy16n83 => exact Or.inl ⟨by rfl, by (intro w hSw; (try dsimp only at hSw); go_simp; (try with_reducible rfl))⟩
      try simp only [Act.put, List.setIfInBounds_toArray, List.set_cons_zero, List.set_cons_succ]
      refine wpAnyH_ready (rs := [17]) (by kernel_rfl) (by simp) ?_
      refine AllReadyH.cons (by (simp only [List.getElem?_toArray, List.getElem?_cons_succ, List.getElem?_cons_zero]; rfl)) (fun K hK => ?_) AllReadyH.nil
      go_simp
      generalize hy : w2.alloc _ = x2
      obtain ⟨b8, k8⟩ := Bx.alloc hy
      clear hy
      have b9z := b9.size
      refine hK.out _ _ (by first | (dsimp only; exact ⟨(b8.cell (by dsimp only; omega)).trans hHeld.1, (b8.cell (by dsimp only; omega)).trans hHeld.2⟩) | (exact ⟨(b8.cell (by dsimp only; omega)).trans hHeld.1, (b8.cell (by dsimp only; omega)).trans hHeld.2⟩)) (fun hHeld => ?_)
      clear hK K
      try simp only [Act.put, List.setIfInBounds_toArray, List.set_cons_zero, List.set_cons_succ]
      have c8 := k8.2.1
      have f8 := k8.2.2
      refine wpAnyH_ready (rs := [18]) (by kernel_rfl) (by simp) ?_
      refine AllReadyH.cons (by (simp only [List.getElem?_toArray, List.getElem?_cons_succ, List.getElem?_cons_zero]; rfl)) (fun K hK => ?_) AllReadyH.nil
      go_simp
      have b10 := ((((Below.refl w2.heap.size x2).setCell (p := ⟨w2.heap.size, 0, none⟩) (Nat.le_refl _) (.slice (some ⟨x9.heap.size, 0, none⟩) ws.length ws.length)).setCell (p := ⟨w2.heap.size, 1, none⟩) (Nat.le_refl _) (.int .i64 h)).setCell (p := ⟨w2.heap.size, 2, none⟩) (Nat.le_refl _) (.int .i64 b')).setCell (p := ⟨w2.heap.size, 3, none⟩) (Nat.le_refl _) (.int .i64 b')
      have K10 := Lib.hid ((((k8.set 0 (by simp) (.slice (some ⟨x9.heap.size, 0, none⟩) ws.length ws.length)).set 1 (by simp) (.int .i64 h)).set 2 (by simp) (.int .i64 b')).set 3 (by simp) (.int .i64 b'))
      have ow := hown
      rw [hxd] at ow
      have O10 := Lib.hid (own_below (own_below ow b8 (own_lt ow)) b10 (fun k hk => by have := own_lt ow k hk; omega))
      have B10 := Lib.hid (((bxd.trans (b9.mono bxd.size)).trans (b8.mono (by have := bxd.size; omega))).trans (b10.mono (by have := bxd.size; omega)))
      have hne := (own_lt ow) _ rfl
      have hge : x9.heap.size ≤ w2.heap.size := by omega
      generalize hww : World.setCell _ _ _ = W4 at b10 K10 O10 B10 ⊢
      clear hww
      refine hK.out _ _ (by exact ⟨(b10.cell (by dsimp only; omega)).trans hHeld.1, (b10.cell (by dsimp only; omega)).trans hHeld.2⟩) (fun hHeld => ?_)
      clear hK K
      refine wpAnyH_done (by kernel_rfl) ?_ _
      go_wp2_with fail
      go_meet
      exact ⟨_, _, rfl, B10.out, hge, Nat.le_refl _, by omega, K10.out, O10.out⟩
    · -- the variable first
      go_simp
      generalize hy : xd.alloc _ = x2
      obtain ⟨b9, k8⟩ := Bx.alloc hy
      clear hy
      have b9z := b9.size
      refine hK.out _ _ (by exact ⟨(b9.cell (by dsimp only; omega)).trans hHeld.1, (b9.cell (by dsimp only; omega)).trans hHeld.2⟩) (fun hHeld => ?_)
      clear hK K
      try simp only [Act.put, List.setIfInBounds_toArray, List.set_cons_zero, List.set_cons_succ]
      refine wpAnyH_ready (rs := [3]) (by kernel_rfl) (by simp) ?_
      refine AllReadyH.cons (by (simp only [List.getElem?_toArray, List.getElem?_cons_succ, List.getElem?_cons_zero]; rfl)) (fun K hK => ?_) AllReadyH.nil
      rw [if_pos (by rfl)]
      refine step_make_full _ (.tmp 18) (.tmp 18) 24 rfl x2.heap.size 3 i0 (.int .i64 0) 1 Try.underlying24 hi hz0 hz1 .i64 .i64 _ _ ws.length rfl rfl rfl rfl (by rw [hz2]; omega) (by unfold maxLen; omega) (Nat.le_refl _) ?_
      intro w2 hown hgrow
      have b8 : Below x2.heap.size x2 w2 := (Below.refl _ _).grown hgrow (Nat.le_refl _) (by simp)
      rw [show (Value.int IntKind.i64 0).cells = #[.int .i64 0] from rfl, Nat.mul_one, toList_madeCells_one] at hown
      refine hK.out _ _ (by exact ⟨(b8.cell (by dsimp only; omega)).trans hHeld.1, (b8.cell (by dsimp only; omega)).trans hHeld.2⟩) (fun hHeld => ?_)
      clear hK K
      try simp only [Act.put, List.setIfInBounds_toArray, List.set_cons_zero, List.set_cons_succ]
      refine' wpAnyH_take (i := 16) (oi := _) (v := _) ?hi16n134 (by kernel_rfl) (by kernel_rfl) (by kernel_rfl) ?hQ16n134 ?hy16n134 (by assumption) ?rest16n134
      case hi16n134 => (simp only [List.getElem?_toArray, List.getElem?_cons_succ, List.getElem?_cons_zero]; rfl)
      case hQ16n134 => exact fun _ _ _ h => h
      case hy16n134 => exact Or.inl ⟨by rfl, by (intro w hSw; (try dsimp only at hSw); go_simp; (try with_reducible rfl))⟩
      try simp only [Act.put, List.setIfInBounds_toArray, List.set_cons_zero, List.set_cons_succ]
      have hxl := k8.1
      replace k8 := k8.below b8 hxl
      rw [hxd] at k8 hxl
      have c8 := k8.2.1
      have f8 := k8.2.2
      refine wpAnyH_ready (rs := [18]) (by kernel_rfl) (by simp) ?_
      refine AllReadyH.cons (by (simp only [List.getElem?_toArray, List.getElem?_cons_succ, List.getElem?_cons_zero]; rfl)) (fun K hK => ?_) AllReadyH.nil
      go_simp
      have b10 := ((((Below.refl x9.heap.size w2).setCell (p := ⟨x9.heap.size, 0, none⟩) (Nat.le_refl _) (.slice (some ⟨x2.heap.size, 0, none⟩) ws.length ws.length)).setCell (p := ⟨x9.heap.size, 1, none⟩) (Nat.le_refl _) (.int .i64 h)).setCell (p := ⟨x9.heap.size, 2, none⟩) (Nat.le_refl _) (.int .i64 b')).setCell (p := ⟨x9.heap.size, 3, none⟩) (Nat.le_refl _) (.int .i64 b')
      have K10 := Lib.hid ((((k8.set 0 (by simp) (.slice (some ⟨x2.heap.size, 0, none⟩) ws.length ws.length)).set 1 (by simp) (.int .i64 h)).set 2 (by simp) (.int .i64 b')).set 3 (by simp) (.int .i64 b'))
      have O10 := Lib.hid (ownsRow_setCell_other (a := ⟨x9.heap.size, 3, none⟩) (ownsRow_setCell_other (a := ⟨x9.heap.size, 2, none⟩) (ownsRow_setCell_other (a := ⟨x9.heap.size, 1, none⟩) (ownsRow_setCell_other (a := ⟨x9.heap.size, 0, none⟩) (own_base hown (show x9.heap.size ≤ x2.heap.size by omega)) (fun h => absurd (Option.some.inj h) (by show ¬ (x2.heap.size = x9.heap.size); omega)) (.slice (some ⟨x2.heap.size, 0, none⟩) ws.length ws.length)) (fun h => absurd (Option.some.inj h) (by show ¬ (x2.heap.size = x9.heap.size); omega)) (.int .i64 h)) (fun h => absurd (Option.some.inj h) (by show ¬ (x2.heap.size = x9.heap.size); omega)) (.int .i64 b')) (fun h => absurd (Option.some.inj h) (by show ¬ (x2.heap.size = x9.heap.size); omega)) (.int .i64 b'))
      have B10 := Lib.hid (((bxd.trans (b9.mono bxd.size)).trans (b8.mono (by have := bxd.size; omega))).trans b10)
      generalize hww : World.setCell _ _ _ = W4 at b10 K10 O10 B10 ⊢
      clear hww
      refine hK.out _ _ (by exact ⟨(b10.cell (by dsimp only; omega)).trans hHeld.1, (b10.cell (by dsimp only; omega)).trans hHeld.2⟩) (fun hHeld => ?_)
      clear hK K
      refine wpAnyH_done (by kernel_rfl) ?_ _
      go_wp2_with fail
      go_meet
      exact ⟨_, _, rfl, B10.out, Nat.le_refl _, by omega, by omega, K10.out, O10.out⟩
  case rest =>
    obtain ⟨g8, gr, rfl, bc, hg8, hgr, hne, k8, ot⟩ := hcut
    have hzz : List.replicate ws.length (Value.int .i64 0) = (lay b' ws.length (raw ws [])).map (Value.int .i64) := by
      rw [raw_nil, lay_nil (by omega), List.map_replicate]
    rw [hzz] at ot
    have k0 := K0.out.below bc K0.out.1
    have q0 := k0.2.1
    have q8 := k8.2.1
    have y0' := k0.1
    have y8 := k8.1
    have hxc := bc.size
    have lr := (ot.lt gr rfl).2
    have BC := Lib.hid bc
    have OT := Lib.hid ot
    clear bc ot hzz k0 k8 q1 q2 y0
    go_wp2
    generalize hxx : (wc.alloc _).alloc _ = x1
    have oo : x1.ownsRow x9.heap.size 3 1 (.slice (some ⟨wc.heap.size + 1, 0, none⟩) 0 0) 0 [] := by
      rw [← hxx]
      exact own_empty (by simp) (by omega)
    obtain ⟨b1, kW, kU, s1⟩ := alloc_box2 hxx
    clear hxx kU
    have hW0 : Wk x1 x9.heap.size wc.heap.size gr ws.length (.slice a ws.length cap) h b n b' ((b' : Nat) : Int) (lay b' ws.length (raw ws [])) (.slice none 0 0) (.slice none 0 0) [] (newPl ws b' []) :=
      ⟨kW, own_below OT.out b1 (own_lt OT.out), ⟨rfl, .inl ⟨rfl, rfl⟩⟩, ⟨rfl, .inl ⟨rfl, rfl⟩⟩, hxc, by omega, fun k hk => (by cases hk), fun k hk => (by cases hk)⟩
    have hA0 : Aside (.slice (some ⟨wc.heap.size + 1, 0, none⟩) 0 0) wc.heap.size gr (.slice none 0 0) (.slice none 0 0) := fun j hj => by
      have e : wc.heap.size + 1 = j := Option.some.inj hj
      exact ⟨by omega, by omega, fun h' => (by cases h'), fun h' => (by cases h')⟩
    obtain ⟨u0, hu0⟩ : ∃ u0, Value.slice (some ⟨wc.heap.size + 1, 0, none⟩) 0 0 = u0 := ⟨_, rfl⟩
    rw [hu0] at oo hA0 ⊢
    have hb0 := BC.out.trans (b1.mono hxc)
    obtain ⟨gW, hgW⟩ : ∃ gW, wc.heap.size = gW := ⟨_, rfl⟩
    rw [hgW] at hW0 hA0 ⊢
    have hmove : ∀ (W : World) (x : Int) (S : List Nat) (l : List Int) (wv nv : Value) (nx : Nat), Below x9.heap.size x9 W → wordIn ps x = true → Ordered ps S → l.length = (raw ws S).length → nx = b' + (raw ws S).length →
        Wk W x9.heap.size gW gr ws.length (.slice a ws.length cap) h b n b' (nx : Int) (lay b' ws.length l) wv nv S (newPl ws b' S) →
        Calls Try.prog 85 #[.pointer (some ⟨gW, 0, none⟩), .int .i64 x] W fun e w' => e = .returned (.int .i64 (mv ws b' (seeW S x) x)) ∧ ∃ wv' nv' nx', nx' = b' + (raw ws (seeW S x)).length ∧
          Wk w' x9.heap.size gW gr ws.length (.slice a ws.length cap) h b n b' ((nx' : Nat) : Int) (lay b' ws.length (l ++ newB ws S x)) wv' nv' (seeW S x) (newPl ws b' (seeW S x)) ∧ Below x9.heap.size W w' ∧ KeptW W w' gW gr wv nv ∧ FreshIn W.heap.size wv wv' ∧ FreshIn W.heap.size nv nv' :=
      fun W x S l wv nv nx hb hx hS hl hnx hk => l18Move_any (.slice a ws.length cap) wv nv ws l h b n b' nx ps S x W HRi.out (RW.out W (BB.out.trans (hb.mono (by omega)))) (by omega) HWI.out hx hS rfl hbN hl hnx hk hgr hb.size
    have HMOVE := Lib.hid hmove
    have U0 := Lib.hid oo
    have A0 := Lib.hid hA0
    have W0 := Lib.hid hW0
    have B0 := Lib.hid hb0
    clear hmove oo hA0 hW0 hb0 hgW hu0 b1 kW s1 BC OT q0 q8 y0' y8 lr hne hg8 K0
    go_loopw [8, 9] (fun u i W => ∃ (k : Nat) (S : List Nat) (wv nv : Value) (nx : Nat), k ≤ rs.length ∧ i = .int .i64 k ∧ W.ownsRow x9.heap.size 3 1 u k (((rs.take k).map (mv ws b' o)).map (Value.int .i64)) ∧
      Wk W x9.heap.size gW gr ws.length (.slice a ws.length cap) h b n b' (nx : Int) (lay b' ws.length (raw ws S)) wv nv S (newPl ws b' S) ∧ Aside u gW gr wv nv ∧ Hid (nx = b' + (raw ws S).length) ∧ Hid (S = seeL [] (rs.take k)) ∧ Below x9.heap.size x9 W) (fun _ i _ => rs.length - (intOf i).toNat)
    case atStart => exact ⟨0, [], _, _, _, Nat.zero_le _, rfl, U0.out, W0.out, A0.out, Lib.hid (by simp [raw]), Lib.hid rfl, B0.out⟩
    case round =>
      clear U0 W0 A0 B0
      obtain ⟨k, S, wv, nv, nx, hk, rfl, ou, hW, hA, hnx, hS, hb⟩ := hrel
      obtain ⟨ua, uc, rfl⟩ := own_form ou
      have hSO : Ordered ps S := by rw [hS.out]; exact seeL_ok (ordered_nil ps) (all_take k HXR.out)
      have hbw := BB.out.trans (hb.mono (show w.heap.size ≤ x9.heap.size by omega))
      by_cases hlt : k < rs.length
      · rcases RQ.out _ hbw with ⟨h', _⟩ | ⟨bl, off, c', hv, _, hbs, _, hc⟩
        · rw [h'] at hlt; cases hlt
        cases hv
        have cq := hc k hlt
        have hw1 := all_get HXR.out hlt
        have hst := seeL_take (o := []) hlt
        rw [← hS.out] at hst
        have htk : rs.take (k + 1) = rs.take k ++ [rs.getD k 0] := by rw [← List.take_append_getElem hlt, List.getD_eq_getElem?_getD, List.getElem?_eq_getElem hlt]; rfl
        have hpre : ∃ t, o = seeL [] (rs.take (k + 1)) ++ t := by
          have h1 : ∃ t, o = seeL [] rs ++ t := by rw [← HF0.out]; exact bfs_pre _ _ _
          exact seeL_pref (k + 1) h1
        rw [hst] at hpre
        obtain ⟨x, hx⟩ : ∃ x, rs.getD k 0 = x := ⟨_, rfl⟩
        rw [hx] at cq hw1 hst htk hpre
        have hmv := mv_pre (ws := ws) (b := b') hpre (seeW_in S x)
        have hM := HMOVE.out _ x S (raw ws S) wv nv nx hb hw1 hSO rfl hnx.out hW
        rw [← raw_seeW, hmv] at hM
        have hkr : (k : Int) < (rs.length : Int) := by omega
        have HM := Lib.hid hM
        have HTK := Lib.hid htk
        have HST := Lib.hid hst
        have OU := Lib.hid ou
        have HA := Lib.hid hA
        have HB := Lib.hid hb
        clear hM htk hst ou hA hb hW hpre hmv hx hc hbw hSO hw1 hS
        go_wp2_with fail
        refine (HM.out).mono ?_
        rintro e w7 ⟨rfl, wv', nv', nx', hnx', hW', hb7, kp, f1, f2⟩
        have ou := own_keptW OU.out kp (fun i hi => HA.out i hi)
        have hA7 := HA.out.fresh (own_lt OU.out) f1 f2
        have hb8 := HB.out.trans hb7
        have z7 := hb8.size
        have OU7 := Lib.hid ou
        have HA7 := Lib.hid hA7
        have HB7 := Lib.hid hb8
        have HW7 := Lib.hid hW'
        have HNX := Lib.hid hnx'
        clear ou hA7 hb8 hW' hnx' hb7 kp f1 f2 OU HA HB HM cq
        go_wp2_with (at_builtin; refine wpList_app1_at rfl _ _ 24 rfl x9.heap.size 3 i0 (.int .i64 0) 1 8 Try.underlying24 hi hz0 hz1 hz2 rfl (by decide) _ _ _ rfl OU7.out #[_] rfl ?_ w7.heap.size rfl rfl ?_ ?_ ?_ ?_)
        · rfl
        · unfold maxLen; omega
        · omega
        · omega
        · intro v' w8 ho8 hg8 hat8
          have b8 := HB7.out.trans (Below.of_grown (B := x9.heap.size) hg8 z7 (fun i hi => (OU7.out.lt i hi).1))
          have m8 := HW7.out.other hg8 HA7.out
          have a8 := HW7.out.apart rfl HA7.out hat8
          have OO8 : Hid (w8.ownsRow x9.heap.size 3 1 v' (k + 1) (((rs.take (k + 1)).map (mv ws b' o)).map (Value.int .i64))) := Lib.hid (by
            rw [HTK.out]
            simpa using ho8)
          have BB8 := Lib.hid b8
          have M8 := Lib.hid m8
          have A8 := Lib.hid a8
          clear ho8 hg8 hat8 b8 m8 a8 OU7 HB7 HTK z7 HA7 HW7
          go_wp2
          go_roundw
          case rel => exact ⟨k + 1, seeW S x, wv', nv', nx', hlt, by go_num, OO8.out, M8.out, A8.out, HNX, HST.out ▸ Lib.hid rfl, BB8.out⟩
          case measure => simp [intOf]; omega
      · obtain rfl : k = rs.length := by omega
        rw [List.take_length] at ou hS
        have hf : Hid (bfs ws (ws.length - 0) 0 S = o) := Lib.hid (by rw [hS.out]; exact HF0.out)
        have q6 := hW.bx.2.1 6
        have yW := hW.bx.1
        rw [← mix_zero ws b' o S] at hW
        have W1 := Lib.hid hW
        have U1 := Lib.hid ou
        have A1 := Lib.hid hA
        have B1 := Lib.hid hb
        have S1 := Lib.hid hSO
        clear hW ou hA hb hSO hbw hS
        go_wp2
        clear q6 yW
        go_loopw [10] (fun t W => ∃ (k : Nat) (S : List Nat) (wv nv : Value) (nx : Nat), k ≤ S.length ∧ t = .int .i64 ((b' + (raw ws (S.take k)).length : Nat) : Int) ∧
          Wk W x9.heap.size gW gr ws.length (.slice a ws.length cap) h b n b' (nx : Int) (lay b' ws.length (mix ws b' o S k)) wv nv S (newPl ws b' S) ∧ Hid (nx = b' + (raw ws S).length) ∧ Hid (Ordered ps S) ∧ Hid (bfs ws (ws.length - k) k S = o) ∧
          W.ownsRow x9.heap.size 3 1 (.slice ua rs.length uc) rs.length ((rs.map (mv ws b' o)).map (Value.int .i64)) ∧ Aside (.slice ua rs.length uc) gW gr wv nv ∧ Below x9.heap.size x9 W) (fun t _ => ws.length - (intOf t).toNat)
        case atStart => exact ⟨0, S, wv, nv, nx, Nat.zero_le _, by simp [raw], W1.out, hnx, S1, hf, U1.out, A1.out, B1.out⟩
        case round =>
          clear W1 U1 A1 B1 S1 hf hnx
          obtain ⟨k, S, wv, nv, nx, hk, rfl, hW, hnx, hSO, hf, ou, hA, hb⟩ := hrel
          obtain ⟨at_, hat⟩ : ∃ at_, b' + (raw ws (S.take k)).length = at_ := ⟨_, rfl⟩
          rw [hat]
          have hrl := HRi.out.raw_le hSO.out
          have hSl := HRi.out.ord_len hSO.out
          have qW := hW.bx.2.1
          have q7 := qW 7
          have q4 := qW 4
          have yW := hW.bx.1
          by_cases hlt : k < S.length
          · obtain ⟨p, hpp⟩ : ∃ p, S[k] = p := ⟨_, rfl⟩
            have hpm := hSO.out.2 _ (List.getElem_mem hlt)
            rw [hpp] at hpm
            obtain ⟨r1, r2, r3, r4, r5⟩ := HRi.out.at_ hpm
            have hkl : (kidsAt ws p).length = hK (ws.getD p 0) := kidsAt_len (Nat.le_trans r4 hN1)
            have hsp : (raw ws (S.take (k + 1))).length = (raw ws (S.take k)).length + (1 + hK (ws.getD p 0)) := by
              rw [← List.take_append_getElem hlt, raw_snoc, List.length_append, hpp, blk_len (by omega)]
            have hle := raw_take_le ws S (k + 1)
            have hxi := HWI.out p
            have hml : (mix ws b' o S k).length = (raw ws S).length := by rw [← mix2_zero hlt hpp]; exact mix2_len 0 hlt hpp
            have cH := own_cell hW.tr at_ (by omega)
            rw [List.getElem?_map, ← hat, lay_at (by rw [hml]; omega), getElem_getD (d := 0) (by rw [hml]; omega), mix_hd hlt hpp, Option.map_some, hat] at cH
            obtain ⟨X, hX⟩ : ∃ X, ws.getD p 0 = X := ⟨_, rfl⟩
            rw [hX] at r3 r4 hkl hsp hxi cH
            have hX0 := (hOk_true.1 r3).2.1
            have hkn := hK_cast X
            have hk20 : hK X ≤ 20 := by have := (hOk_true.1 r3).2.2.2; omega
            have hof := fun (W : World) => (l17Of_any X W hX0 hxi.2)
            rw [← hkn] at hof
            have hf1 := hf.out
            rw [show ws.length - k = (ws.length - (k + 1)) + 1 by omega, bfs_go hlt, show S.getD k 0 = p by rw [List.getD_eq_getElem?_getD, List.getElem?_eq_getElem hlt, hpp]; rfl] at hf1
            have hc1 : (at_ : Int) < (nx : Int) := by have := hnx.out; omega
            have hc2 : (at_ : Int) < (ws.length : Int) := by omega
            have hc3 : at_ + 1 + hK X ≤ b' + (raw ws S).length := by omega
            have HOF := Lib.hid hof
            have HF1 := Lib.hid hf1
            have HAT := Lib.hid hat
            have HPP := Lib.hid hpp
            have HSP := Lib.hid hsp
            have HKL := Lib.hid hkl
            have HW1 := Lib.hid (by rw [← mix2_zero hlt hpp] at hW; exact hW : Wk wr x9.heap.size gW gr ws.length (.slice a ws.length cap) h b n b' (nx : Int) (lay b' ws.length (mix2 ws b' o S k p 0)) wv nv S (newPl ws b' S))
            have OU := Lib.hid ou
            have HA := Lib.hid hA
            have HB := Lib.hid hb
            clear hof hf1 hat hpp hsp hkl hW ou hA hb hX hkn hf hml hle hxi qW
            go_wp2_with (go_at_call 48; refine (HOF.out _).mono ?_; rintro e w' ⟨rfl, rfl⟩)
            clear q7 q4 cH HOF hc1
            go_loopw [14] (fun t W => ∃ (j : Nat) (T : List Nat) (wv nv : Value) (nx : Nat), 1 ≤ j ∧ j ≤ hK X + 1 ∧ t = .int .i64 j ∧
              Wk W x9.heap.size gW gr ws.length (.slice a ws.length cap) h b n b' (nx : Int) (lay b' ws.length (mix2 ws b' o T k p (j - 1))) wv nv T (newPl ws b' T) ∧ Hid (nx = b' + (raw ws T).length) ∧ Hid (T = seeL S ((kidsAt ws p).take (j - 1))) ∧
              W.ownsRow x9.heap.size 3 1 (.slice ua rs.length uc) rs.length ((rs.map (mv ws b' o)).map (Value.int .i64)) ∧ Aside (.slice ua rs.length uc) gW gr wv nv ∧ Below x9.heap.size x9 W) (fun t _ => hK X + 1 - (intOf t).toNat)
            case atStart => exact ⟨1, S, wv, nv, nx, Nat.le_refl _, by omega, rfl, HW1.out, hnx, Lib.hid (by simp [seeL]), OU.out, HA.out, HB.out⟩
            case round =>
              clear HW1 OU HA HB hnx yW
              obtain ⟨j, T, wv, nv, nx, hj1, hj2, rfl, hW, hnx, hT, ou, hA, hb⟩ := hrel
              have hTO : Ordered ps T := by rw [hT.out]; exact seeL_ok hSO.out (all_take _ r5)
              have hST : S.length ≤ T.length := by rw [hT.out]; exact seeL_len _ _
              have hkT : k < T.length := by omega
              have hTk : T[k] = p := by
                have h1 : T.getD k 0 = p := by
                  rw [hT.out, seeL_at hlt, List.getD_eq_getElem?_getD, List.getElem?_eq_getElem hlt]; exact HPP.out
                rw [List.getD_eq_getElem?_getD, List.getElem?_eq_getElem hkT] at h1; exact h1
              have hTt : T.take k = S.take k := by rw [hT.out]; exact seeL_takeS (by omega)
              have hTt1 : T.take (k + 1) = S.take (k + 1) := by rw [hT.out]; exact seeL_takeS (by omega)
              have hTr := HRi.out.raw_le hTO
              have hTl := raw_take_le ws T (k + 1)
              rw [hTt1, HSP.out] at hTl
              have hml := mix2_len (ws := ws) (b := b') (o := o) (j - 1) hkT hTk
              by_cases hjk : j ≤ hK X
              · have hjl : j - 1 < (kidsAt ws p).length := by rw [HKL.out]; omega
                have hx1 := all_get r5 hjl
                have hst := seeL_take (o := S) hjl
                rw [← hT.out, show j - 1 + 1 = j by omega] at hst
                have hie : at_ + j = b' + ((raw ws (T.take k)).length + 1 + (j - 1)) := by rw [hTt]; have := HAT.out; omega
                have hil : (raw ws (T.take k)).length + 1 + (j - 1) < (mix2 ws b' o T k p (j - 1)).length := by rw [hml, hTt]; omega
                have cx := own_cell hW.tr (at_ + j) (by omega)
                obtain ⟨x, hx⟩ : ∃ x, (kidsAt ws p).getD (j - 1) 0 = x := ⟨_, rfl⟩
                rw [hie, List.getElem?_map, lay_at hil, mix2_get hjl, hx, Option.map_some, ← hie] at cx
                rw [hx] at hx1 hst
                have hpre : ∃ t, o = seeL S ((kidsAt ws p).take j) ++ t := seeL_pref j (by rw [← HF1.out]; exact bfs_pre _ _ _)
                rw [hst] at hpre
                have hmv := mv_pre (ws := ws) (b := b') hpre (seeW_in T x)
                have hM := HMOVE.out _ x T (mix2 ws b' o T k p (j - 1)) wv nv nx hb hx1 hTO hml hnx.out hW
                rw [mix2_see hkT, hmv] at hM
                have hset : (lay b' ws.length (mix2 ws b' o (seeW T x) k p (j - 1))).set (at_ + j) (mv ws b' o x) = lay b' ws.length (mix2 ws b' o (seeW T x) k p (j + 1 - 1)) := by
                  have h1 : (seeW T x).take k = T.take k := by rw [← hst, hTt]; exact seeL_takeS (by omega)
                  have h2 := mix2_set (ws := ws) (b := b') (o := o) (q := seeW T x) (k := k) hjl
                  rw [hx, h1, show j - 1 + 1 = j + 1 - 1 by omega] at h2
                  rw [hie, lay_set, h2]
                  have h3 : (seeW T x).length ≥ T.length := seeW_len T x
                  rw [mix2_len (j - 1) (by omega) (by
                    have h4 : (seeW T x)[k]? = T[k]? := by
                      have h5 := congrArg (fun l => l[k]?) (show (seeW T x).take (k + 1) = T.take (k + 1) by rw [← hst, hTt1]; exact seeL_takeS (by omega))
                      simpa using h5
                    rw [List.getElem?_eq_getElem (by omega), List.getElem?_eq_getElem hkT] at h4
                    rw [Option.some.inj h4, hTk])]
                  have h6 : (raw ws T).length ≤ (raw ws (seeW T x)).length := by rw [raw_seeW, List.length_append]; omega
                  rw [hml] at hil
                  omega
                have q4 := hW.bx.2.1 4
                have yW := hW.bx.1
                have s1 : IntKind.i64.wrap ((at_ : Int) + (j : Int)) = (at_ : Int) + (j : Int) := IntWalk.i64_in _ (by omega)
                have s2 : (0 : Int) ≤ (at_ : Int) + (j : Int) := by omega
                have s3 : ((at_ : Int) + (j : Int)).toNat = at_ + j := by omega
                have s4 : (at_ : Int) + (j : Int) < (ws.length : Int) := by omega
                have s5 : (j : Int) ≤ (hK X : Int) := by omega
                have HM := Lib.hid hM
                have HSET := Lib.hid hset
                have HST := Lib.hid hst
                have OU := Lib.hid ou
                have HA := Lib.hid hA
                have HB := Lib.hid hb
                clear hM hset hst ou hA hb hW hmv hpre hie hil hx hx1 hml hTk hTt hTt1 hT hnx
                go_wp2_with fail
                refine (HM.out).mono ?_
                rintro e w7 ⟨rfl, wv', nv', nx', hnx', hW', hb7, kp, f1, f2⟩
                have ou := own_keptW OU.out kp (fun i hi => HA.out i hi)
                have hA7 := HA.out.fresh (own_lt OU.out) f1 f2
                have hb8 := (HB.out.trans hb7).setCell (p := ⟨gr, at_ + j, none⟩) hgr (.int .i64 (mv ws b' o x))
                have m8 := hW'.turn (i := at_ + j) (by omega) (mv ws b' o x)
                rw [HSET.out] at m8
                have ou8 := ownsRow_setCell_other (a := ⟨gr, at_ + j, none⟩) ou (fun h => (HA.out _ h).2.1 rfl) (.int .i64 (mv ws b' o x))
                have q4 := hW'.bx.2.1 4
                have yW := hW'.bx.1
                have c2 := own_cell hW'.tr (at_ + j) (by omega)
                obtain ⟨z, hz⟩ : ∃ z, ((lay b' ws.length (mix2 ws b' o (seeW T x) k p (j - 1))).map (Value.int .i64))[at_ + j]? = some z := by
                  have h1 := hW'.tr.1
                  exact ⟨_, List.getElem?_eq_getElem (by rw [h1]; omega)⟩
                rw [hz] at c2
                have c3 := own_frozen hW'.tr (at_ + j)
                have OU8 := Lib.hid ou8
                have HA8 := Lib.hid hA7
                have HB8 := Lib.hid hb8
                have HW8 := Lib.hid m8
                have HNX := Lib.hid hnx'
                clear ou ou8 hA7 hb8 hW' hnx' hb7 kp f1 f2 OU HA HB HM cx m8 hz
                go_wp2
                go_roundw
                case rel => exact ⟨j + 1, seeW T x, wv', nv', nx', by omega, by omega, by go_num, HW8.out, HNX, Lib.hid (by rw [← HST.out, Nat.add_sub_cancel]), OU8.out, HA8.out, HB8.out⟩
                case measure => simp [intOf]; omega
              · obtain rfl : j = hK X + 1 := by omega
                rw [Nat.add_sub_cancel, ← HKL.out, mix2_all hkT hTk] at hW
                rw [Nat.add_sub_cancel, ← HKL.out, List.take_length] at hT
                have hf2 := HF1.out
                rw [← hT.out] at hf2
                have HT2 := Lib.hid hf2
                have hnat : ((b' + (raw ws (T.take (k + 1))).length : Nat) : Int) = (at_ : Int) + 1 + (hK X : Int) := by rw [hTt1, HSP.out]; have := HAT.out; omega
                have HNAT := Lib.hid hnat
                have HW2 := Lib.hid hW
                have OU := Lib.hid ou
                have HA := Lib.hid hA
                have HB := Lib.hid hb
                have HTO := Lib.hid hTO
                clear hf2 hnat hW ou hA hb hTO hml hTk hTt hTt1 hT
                go_wp2
                go_roundw
                case rel => exact ⟨k + 1, T, wv, nv, nx, by omega, by rw [HNAT.out], HW2.out, hnx, HTO, HT2, OU.out, HA.out, HB.out⟩
                case measure => simp [intOf]; omega
          · obtain rfl : k = S.length := by omega
            have hso := hf.out
            rw [bfs_end (Nat.lt_irrefl _)] at hso
            subst hso
            rw [List.take_length] at hat
            rw [mix_all] at hW
            have hc1 : ¬ ((at_ : Int) < (nx : Int)) := by have := hnx.out; omega
            have hnx2 : nx = b' + (raw ws S).length := hnx.out
            have HNX := Lib.hid hnx2
            have k4 := K4.out.below hb K4.out.1
            have q44 := k4.2.1
            have f44 := k4.2.2
            have y44 := k4.1
            have TR := Lib.hid hW.tr
            have bbz := BB.out.trans (hb.mono (show w.heap.size ≤ x9.heap.size by omega))
            have BZ := Lib.hid bbz
            have OU := Lib.hid ou
            have hdf : Diff (.slice (some ⟨gr, 0, none⟩) ws.length ws.length) (.slice ua rs.length uc) := fun j hj hj' => by
              have e : gr = j := Option.some.inj hj
              exact (hA j hj').2.1 e.symm
            clear hW ou hA hb k4 bbz hnx hnx2 hat hf hSO hrl hSl q7 q4
            have q4a := qW 4
            have q5a := qW 5
            have q6a := qW 6
            have q7a := qW 7
            go_wp2
            refine bodyPost_ret (v := .tuple #[.agg #[.slice (some ⟨gr, 0, none⟩) ws.length ws.length, .int .i64 h, .int .i64 b', .int .i64 nx], .slice ua rs.length uc]) ?_ rfl ⟨_, _, by rw [HNX.out, Int.natCast_add], ?_, ?_, ?_, hdf⟩
            · simp [results, Try.results59, go_sem, q44]
            · refine own_base (base := x9.heap.size) ?_ (by omega)
              repeat (refine ownsRow_setCell_below ?_ (by dsimp only; omega) _)
              exact TR.out
            · refine own_base (base := x9.heap.size) ?_ (by omega)
              repeat (refine ownsRow_setCell_below ?_ (by dsimp only; omega) _)
              have h1 := OU.out
              rw [List.map_map] at h1
              exact h1
            · repeat (refine Below.setCell ?_ (by dsimp only; omega) _)
              exact BZ.out

end Go.Proofs.Ytmcoidnonmmpjaa
