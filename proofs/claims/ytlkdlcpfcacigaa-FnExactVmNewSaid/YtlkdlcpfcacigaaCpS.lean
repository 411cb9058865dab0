/- l13Copy: a copy of functions, of the reference. -/
import Derived.Test.YtlkdlcpfcacigaaStE
import Derived.Test.YtlkdlcpfcacigaaOpsT
import Derived.Test.YtlkdlcpfcacigaaOwnH
import Derived.Test.YtlkdlcpfcacigaaMgFunE
import Derived.Test.YtlkdlcpfcacigaaMgHand
import Derived.Test.YtlkdlcpfcacigaaStA
import Derived.Test.YtlkdlcpfcacigaaOwnT
namespace Go.Proofs.Ytlkdlcpfcacigaa
open Go.RowKit
set_option linter.unusedVariables false
set_option linter.unusedSimpArgs false

set_option maxHeartbeats 1600000 in
set_option maxRecDepth 100000 in
theorem l13Copy_any {B : Nat} (v : Value) (fs : List F2) (w : World) (hr : RdF B w v fs) (hn : fs.length ≤ 1000) (hm : tot fs ≤ 4294967296) :
    Calls Try.prog 16 #[v] w fun e w' => ∃ v', e = .returned v' ∧ OwnF w.heap.size w' v' fs ∧ Below w.heap.size w w' := by
  obtain ⟨ti, hi, hz0, hz1, hz2⟩ := info_parts Try.infoFun
  obtain ⟨to, oi, oz0, oz1, oz2⟩ := info_parts Try.infoOp2
  have HR := Lib.hid (fun (W : World) (hb : Below w.heap.size w W) => hr.below' hb)
  obtain ⟨fa, fc, rfl⟩ := hr.form
  clear hr
  go_enter Try.func16, Try.ntmps16
  go_wp2_with fail
  generalize hz : w.alloc _ = z
  have hown : OwnH w.heap.size z.heap.size z (.slice (some ⟨w.heap.size, 0, none⟩) 0 0) [] := by
    subst hz
    exact OwnH.nil (own_empty rfl (Nat.le_refl _)) (fun q hq => by cases hq; simp)
  obtain ⟨bz, _⟩ := Bx.alloc hz
  clear hz
  go_loopw [3, 4] (fun s t wr => ∃ (k : Nat), k ≤ fs.length ∧ t = .int .i64 k ∧ Below w.heap.size w wr ∧ OwnH w.heap.size wr.heap.size wr s (fs.take k)) (fun _ t _ => fs.length - (intOf t).toNat)
  case atStart => exact ⟨0, Nat.zero_le _, rfl, bz, by simpa using hown⟩
  case round =>
    clear bz hown
    obtain ⟨k, hk, rfl, bb, hown⟩ := hrel
    by_cases hlt : k < fs.length
    · obtain ⟨b, off, cap', lv, hs, hB, hbs, hcap, c0, c1, ro⟩ := (HR.out _ bb).at_ hlt
      cases hs
      obtain ⟨la, lc, rfl⟩ := ro.form
      have hmem := tot_mem (List.getElem_mem hlt)
      have hki : (k : Int) < (fs.length : Int) := by omega
      obtain ⟨va, vc, hv⟩ := hown.form
      have htl : (fs.take k).length = k := by rw [List.length_take]; omega
      rw [htl] at hv
      subst hv
      go_wp2_with fail
      refine wp_region_held_drew (S := (fun w' => w'.cell? ⟨b, off + k * 2, none⟩ = some (.int .i64 fs[k].f) ∧ w'.cell? ⟨b, off + k * 2 + 1, none⟩ = some (.slice la fs[k].os.length lc))) (by kernel_rfl) (by first | (dsimp only; exact ⟨c0, c1⟩) | (exact ⟨c0, c1⟩)) (fun hHeld => ?_)
      refine tkH (i := 0) ?_
      refine tkH (i := 1) ?_
      refine tkH (i := 2) ?_
      refine tkH (i := 3) ?_
      refine tkH (i := 4) ?_
      refine tkH (i := 5) ?_
      refine tkH (i := 7) ?_
      refine tkH (i := 8) ?_
      refine tkH (i := 9) ?_
      refine tkH (i := 10) ?_
      refine tkH (i := 11) ?_
      generalize hxd : wr.drew = x1 at hHeld
      have hd : Below wr.heap.size wr x1 := by rw [← hxd]; exact (Below.refl _ _).drew
      replace hown := hown.same (w' := x1) (fun q _ hq => hd.block q hq)
      have hx1 := hd.size
      have hbx1 : b < x1.heap.size := by omega
      have rox := RdE.below' ro hd
      clear hxd
      refine rdH (i := 6) (fun K hK => ?_)
      go_simp
      generalize hy0 : x1.alloc _ = x2
      have hnew : x2.heap[x1.heap.size]? = some (.cells #[] 74 (0, 0)) := by rw [← hy0]; exact heap_alloc_new x1 _
      have hb2 : Below x1.heap.size x1 x2 := by rw [← hy0]; exact (Below.refl _ _).alloc (Nat.le_refl _) _
      clear hy0
      refine bkH hK (by first | (dsimp only; exact ⟨(hb2.cell (by dsimp only; omega)).trans hHeld.1, (hb2.cell (by dsimp only; omega)).trans hHeld.2⟩) | (exact ⟨(hb2.cell (by dsimp only; omega)).trans hHeld.1, (hb2.cell (by dsimp only; omega)).trans hHeld.2⟩)) (fun hHeld => ?_)
      clear hK K
      replace hown := hown.same (w' := x2) (fun q _ hq => hb2.block q (Nat.lt_of_lt_of_le hq hx1))
      refine wpAnyH_ready (rs := [12]) (by kernel_rfl) (by simp) ?_
      refine AllReadyH.cons (by (simp only [List.getElem?_toArray, List.getElem?_cons_succ, List.getElem?_cons_zero]; rfl)) (fun K hK => ?_) AllReadyH.nil
      rw [if_pos (by rfl)]
      refine step_copyE (enc := O3.enc) _ _ 50 rfl x1.heap.size 74 to (.agg #[.int .i64 0, .int .i64 0, .int .i64 0]) 3 24 Try.underlying50 oi oz0 oz1 oz2 rfl (by decide) (fun x => rfl) (fun x u hu => by simp [O3.enc] at hu; rcases hu with rfl | rfl | rfl <;> rfl) x1.heap.size rfl hnew (Nat.le_refl _) _ fs[k].os rfl (RdE.below' rox hb2) (by omega) (by decide) ?_
      intro u w2 ou gu altu
      obtain ⟨ua, uc, rfl⟩ := own_form ou
      have bgu := Below.of_grown gu hb2.size (fun q hq => by have := Option.some.inj hq; omega)
      have bx : Below wr.heap.size wr w2 := hd.trans ((hb2.trans bgu).mono hx1)
      replace hown := hown.same (w' := w2) (fun q _ hq => bgu.block q (Nat.lt_of_lt_of_le hq hx1))
      have hx2 := bx.size
      have hul : ∀ q, (Value.slice ua fs[k].os.length uc).ownBlock = some q → wr.heap.size ≤ q := fun q hq => by have := (ou.lt q hq).1; omega
      have hS2 : w2.cell? ⟨b, off + k * 2, none⟩ = some (.int .i64 fs[k].f) ∧ w2.cell? ⟨b, off + k * 2 + 1, none⟩ = some (.slice la fs[k].os.length lc) := ⟨(bx.cell (by dsimp only; omega)).trans c0, (bx.cell (by dsimp only; omega)).trans c1⟩
      refine hK.out _ _ (by first | (dsimp only; exact hS2) | exact hS2) (fun hHeld => ?_)
      clear hK K gu altu bgu hnew hb2 rox hbx1 hd
      try simp only [Act.put, List.setIfInBounds_toArray, List.set_cons_zero, List.set_cons_succ]
      refine tkH (i := 13) ?_
      refine rdH (i := 14) (fun K hK => ?_)
      go_simp
      generalize hy : w2.alloc _ = w3
      obtain ⟨b3, k3⟩ := Bx.alloc hy
      refine bkH hK (by first | (dsimp only; exact ⟨(b3.cell (by dsimp only; omega)).trans hHeld.1, (b3.cell (by dsimp only; omega)).trans hHeld.2⟩) | (exact ⟨(b3.cell (by dsimp only; omega)).trans hHeld.1, (b3.cell (by dsimp only; omega)).trans hHeld.2⟩)) (fun hHeld => ?_)
      clear hK K
      refine wpAnyH_ready (rs := [15]) (by kernel_rfl) (by simp) ?_
      refine AllReadyH.cons (by (simp only [List.getElem?_toArray, List.getElem?_cons_succ, List.getElem?_cons_zero]; rfl)) (fun K hK => ?_) AllReadyH.nil
      rw [if_pos (by rfl)]
      obtain ⟨xs, hrow, hrb⟩ := hown.row
      have hrow2 := hrow
      rw [htl] at hrow2
      refine step_app1 _ _ 24 rfl w.heap.size 52 ti (.agg #[.int .i64 0, .slice none 0 0]) 2 32 Try.underlying24 hi hz0 hz1 hz2 rfl (by decide) _ _ _ rfl (own_below hrow2 b3 (own_lt hrow2)) #[.int .i64 fs[k].f, .slice ua fs[k].os.length uc] rfl ?_ w2.heap.size rfl ?_ ?_ ?_ ?_ ?_
      · simp [Value.oneCell']
      · exact k3.2.1
      · unfold maxLen; omega
      · omega
      · have := bb.size; have := b3.size; omega
      · intro v3 w4 o3 g3 alt
        have g2 : w2.grownBy w4 (Value.slice va k vc).ownBlock := by
          have := World.grownBy_alloc w2 (.cells #[.int .i64 fs[k].f, .slice ua fs[k].os.length uc] 52) (Value.slice va k vc).ownBlock
          rw [hy] at this
          exact this.trans' g3
        have hbs0 := bb.size
        have hw3 : w3.heap.size = w2.heap.size + 1 := by rw [← hy, World.size_alloc]
        have hown3 := OwnH.snoc (x := fs[k]) hown (own_base ou (show w.heap.size ≤ x1.heap.size by omega)) hul (by omega) g2 (fun ys hy => by rw [htl]; exact (own_uniq hy hrow) ▸ o3) (by rw [← hw3]; exact alt)
        rw [List.take_append_getElem hlt] at hown3
        have K6 : w4.cell? ⟨b, off + k * 2, none⟩ = some (.int .i64 fs[k].f) ∧ w4.cell? ⟨b, off + k * 2 + 1, none⟩ = some (.slice la fs[k].os.length lc) := by
          have hb3s := b3.size
          have hne : ∀ q, (Value.slice va k vc).ownBlock = some q → q ≠ b := fun q hq => by have := (hrb q hq).1; omega
          exact ⟨(World.cell?_of_block (a := ⟨b, _, none⟩) (g3.block b (by omega) (fun e => hne b e.symm rfl))).trans ((b3.cell (by dsimp only; omega)).trans hS2.1), (World.cell?_of_block (a := ⟨b, _, none⟩) (g3.block b (by omega) (fun e => hne b e.symm rfl))).trans ((b3.cell (by dsimp only; omega)).trans hS2.2)⟩
        have BB := Lib.hid (bb.trans (((bx.trans (b3.mono bx.size)).mono bb.size).trans (Below.of_grown g3 (by have := b3.size; omega) (fun q hq => (hrb q hq).1))))
        have H3 := Lib.hid hown3
        refine hK.out _ _ (by first | (dsimp only; exact K6) | (exact K6)) (fun hHeld => ?_)
        clear hK K K6 hown3 g2 g3 alt o3 hrow hrow2 hrb hy b3 k3 hown ou hul bx bb ro hS2
        try simp only [Act.put, List.setIfInBounds_toArray, List.set_cons_zero, List.set_cons_succ]
        refine tkH (i := 16) ?_
        refine wpAnyH_done (by kernel_rfl) ?_ _
        go_wp2
        go_roundw
        case rel => exact ⟨k + 1, hlt, by go_num, BB.out, H3.out⟩
        case measure => simp [intOf]; omega
    · have hki : ¬ ((k : Int) < (fs.length : Int)) := by omega
      obtain rfl : k = fs.length := by omega
      rw [List.take_length] at hown
      go_wp2
      go_ret
      exact ⟨_, rfl, hown.to_f, bb⟩

end Go.Proofs.Ytlkdlcpfcacigaa
