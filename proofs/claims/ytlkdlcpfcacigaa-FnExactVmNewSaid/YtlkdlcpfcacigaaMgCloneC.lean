import Derived.Test.YtlkdlcpfcacigaaClone
import Derived.Test.YtlkdlcpfcacigaaCalls
import Derived.Test.YtlkdlcpfcacigaaOpsT
import Derived.Test.YtlkdlcpfcacigaaOwnH
import Derived.Test.YtlkdlcpfcacigaaMgFunE
import Derived.Test.YtlkdlcpfcacigaaMgHand
import Derived.Test.YtlkdlcpfcacigaaStA
import Derived.Test.YtlkdlcpfcacigaaOwnT
/- slices.Clone of rows of calls and of places. -/
namespace Go.Proofs.Ytlkdlcpfcacigaa
open Go.RowKit
set_option linter.unusedVariables false

theorem RdO.news {B : Nat} {w w' : World} {ad : Addr} {n cap : Nat} {cs : List O3} (h : RdO B w (.slice (some ad) n cap) cs) (hb : Below w.heap.size w w') :
    n = cs.length ∧ ∀ j u, (flat O3.enc cs)[j]? = some u → w'.cell? (ad.add j) = some u := by
  rcases h with ⟨rfl, a, c, hv⟩ | ⟨b, off, c, hv, h2, h3, h4, h5⟩
  · injection hv with h1 h2 h3
    exact ⟨by simpa using h2, fun j u hj => by simp [flat] at hj⟩
  · injection hv with e1 e2 e3
    have e1 := Option.some.inj e1
    subst e1
    refine ⟨e2, fun j u hj => ?_⟩
    have hlen : (flat O3.enc cs).length = cs.length * 3 := flat_len O3.enc_len cs
    have hjl : j < cs.length * 3 := by rw [← hlen]; exact (List.getElem?_eq_some_iff.1 hj).1
    have hk : j / 3 < cs.length := by omega
    have e := flat_at O3.enc_len cs (j / 3) _ (List.getElem?_eq_getElem hk) (j % 3) (by omega)
    have hc := h5 (j / 3) _ (List.getElem?_eq_getElem hk) (j % 3) (by omega)
    rw [show j / 3 * 3 + j % 3 = j by omega] at e
    have hadd : (⟨b, off, none⟩ : Addr).add j = ⟨b, off + j, none⟩ := by unfold Addr.add; split <;> simp_all
    rw [hadd]
    rw [show off + j / 3 * 3 + j % 3 = off + j by omega] at hc
    rw [← e, hj] at hc
    exact (hb.cell (p := ⟨b, off + j, none⟩) h3).trans hc
theorem RdO.none_nil {B : Nat} {w : World} {n cap : Nat} {cs : List O3} (h : RdO B w (.slice none n cap) cs) : cs = [] := by
  rcases h with ⟨h, _⟩ | ⟨b, off, c, hv, _⟩
  · exact h
  · injection hv with h1; cases h1
theorem flat_one (cs : List O3) : ∀ u ∈ flat O3.enc cs, u.oneCell' = true := by
  intro u hu
  unfold flat at hu
  obtain ⟨c, _, hc⟩ := List.mem_flatMap.1 hu
  simp only [O3.enc, List.mem_cons, List.not_mem_nil, or_false] at hc
  rcases hc with rfl | rfl | rfl <;> rfl

set_option maxHeartbeats 400000 in
theorem cloneO_any {B : Nat} (v : Value) (cs : List O3) (w : World) (hr : RdO B w v cs) (hn : cs.length ≤ 4294967296) :
    Calls Try.prog 47 #[v] w fun e w' => ∃ v', e = .returned v' ∧ w'.ownsRow w.heap.size 74 3 v' cs.length (flat O3.enc cs) ∧ Below w.heap.size w w' := by
  obtain ⟨a, cap, rfl⟩ := hr.form
  have hrn := fun (w : World) (n c : Nat) (x : Option Addr) => Lib.run_eql_slice_nil (P := Try.prog) w 50 74 x n c 0 0 Try.underlying50
  obtain ⟨i0, hi, hz0, hz1, hz2⟩ := info_parts Try.infoOp2
  have hfl : (flat O3.enc cs).length = cs.length * 3 := flat_len O3.enc_len cs
  cases a with
  | none =>
    have hz : cs = [] := hr.none_nil
    subst hz
    clear hr
    go_enter Try.func47, Try.ntmps47
    go_wp2
    go_ret
    exact ⟨_, rfl, World.ownsRow_nil _ _ _ _, Below.refl _ _⟩
  | some ad =>
    have hnew := (RdO.news hr ((Below.refl w.heap.size w).alloc (Nat.le_refl _) (.cells #[] 74))).2
    have HN := Lib.hid hnew
    clear hr hnew
    go_enter Try.func47, Try.ntmps47
    go_wp2_with (at_builtin; refine wpList_append_own _ rfl _ _ 50 rfl w.heap.size 74 i0 (.agg #[.int .i64 0, .int .i64 0, .int .i64 0]) 3 24 Try.underlying50 hi hz0 hz1 hz2 rfl (by decide) _ 0 [] rfl ?_ ad cs.length cap (flat O3.enc cs) rfl hfl HN.out (flat_one _) ?_ ?_ ?_ ?_)
    · exact own_empty rfl (Nat.le_refl _)
    · unfold maxLen; omega
    · omega
    · simp
    · intro v' w1 ho hg _
      have hb : Below w.heap.size w w1 := ((Below.refl _ _).alloc (Nat.le_refl _) _).grown hg (by simp) (by intro k hk; simp [Value.ownBlock] at hk; omega)
      clear hg
      go_wp2
      go_ret
      exact ⟨_, rfl, by simpa using ho, hb⟩

end Go.Proofs.Ytlkdlcpfcacigaa

/- copyFuns: a copy of functions. -/
namespace Go.Proofs.Ytlkdlcpfcacigaa
open Go.RowKit
set_option linter.unusedVariables false
set_option linter.unusedSimpArgs false

set_option maxHeartbeats 1600000 in
set_option maxRecDepth 100000 in
theorem copyFuns_any {B : Nat} (v : Value) (fs : List F2) (w : World) (hr : RdF B w v fs) (hn : fs.length ≤ 1000) (hm : tot fs ≤ 4294967296) :
    Calls Try.prog 21 #[v] w fun e w' => ∃ v', e = .returned v' ∧ OwnF w.heap.size w' v' fs ∧ Below w.heap.size w w' := by
  obtain ⟨ti, hi, hz0, hz1, hz2⟩ := info_parts Try.infoFun
  have HR := Lib.hid (fun (W : World) (hb : Below w.heap.size w W) => hr.below' hb)
  obtain ⟨fa, fc, rfl⟩ := hr.form
  clear hr
  go_enter Try.func21, Try.ntmps21
  go_wp2_with fail
  generalize hz : w.alloc _ = z
  have hown : OwnH w.heap.size z.heap.size z (.slice (some ⟨w.heap.size, 0, none⟩) 0 0) [] := by
    subst hz
    exact OwnH.nil (own_empty rfl (Nat.le_refl _)) (fun q hq => by cases hq; simp)
  obtain ⟨bz, _⟩ := Bx.alloc hz
  clear hz
  go_loopw [3, 9] (fun s t wr => ∃ (k : Nat), k ≤ fs.length ∧ t = .int .i64 k ∧ Below w.heap.size w wr ∧ OwnH w.heap.size wr.heap.size wr s (fs.take k)) (fun _ t _ => fs.length - (intOf t).toNat)
  case atStart => exact ⟨0, Nat.zero_le _, rfl, bz, by simpa using hown⟩
  case round =>
    clear bz hown
    obtain ⟨k, hk, rfl, bb, hown⟩ := hrel
    by_cases hlt : k < fs.length
    · obtain ⟨b, off, cap', lv, hs, hB, hbs, hcap, c0, c1, ro⟩ := (HR.out _ bb).at_ hlt
      cases hs
      obtain ⟨la, lc, rfl⟩ := ro.form
      have hmem := tot_mem (List.getElem_mem hlt)
      have hki : (k : Int) < (fs.length : Int) := by omega
      obtain ⟨va, vc, hv⟩ := hown.form
      have htl : (fs.take k).length = k := by rw [List.length_take]; omega
      rw [htl] at hv
      subst hv
      go_wp2_with fail
      generalize hx : wr.alloc _ = x0
      obtain ⟨bx, k5⟩ := Bx.alloc hx
      clear hx
      replace hown : OwnH w.heap.size wr.heap.size x0 _ (fs.take k) := hown.same (fun q _ hq => bx.block q hq)
      refine wp_region_held_drew (S := (fun w' => ∀ j, w'.cell? ⟨wr.heap.size, j, none⟩ = #[.int .i64 fs[k].f, .slice la fs[k].os.length lc][j]?)) (by kernel_rfl) (by first | (dsimp only; exact k5.2.1) | (exact k5.2.1)) (fun hHeld => ?_)
      refine tkH (i := 0) ?_
      refine tkH (i := 1) ?_
      refine tkH (i := 2) ?_
      refine tkH (i := 3) ?_
      refine tkH (i := 4) ?_
      generalize hxd : x0.drew = x1 at hHeld
      have hd : Below x0.heap.size x0 x1 := by rw [← hxd]; exact (Below.refl _ _).drew
      replace k5 := k5.below hd k5.1
      replace hown := hown.same (w' := x1) (fun q _ hq => hd.block q (Nat.lt_of_lt_of_le hq bx.size))
      replace bx := bx.trans (hd.mono bx.size)
      clear hxd hd
      refine rdH (i := 5) (fun K hK => ?_)
      go_simp
      refine (cloneO_any _ fs[k].os x1 (RdE.below' ro bx) (by omega)).mono ?_
      rintro e w2 ⟨u, rfl, ou, b2⟩
      obtain ⟨ua, uc, rfl⟩ := own_form ou
      refine bkH hK (by first | (dsimp only; exact (k5.below b2 k5.1).2.1) | (exact (k5.below b2 k5.1).2.1)) (fun hHeld => ?_)
      clear hK K
      replace k5 := k5.below b2 k5.1
      replace hown := hown.same (w' := w2) (fun q _ hq => b2.block q (Nat.lt_of_lt_of_le hq bx.size))
      have hx2 := b2.size
      have hx1 := bx.size
      have hul : ∀ q, (Value.slice ua fs[k].os.length uc).ownBlock = some q → wr.heap.size ≤ q := fun q hq => by have := (ou.lt q hq).1; omega
      replace bx := bx.trans (b2.mono bx.size)
      refine tkH (i := 6) ?_
      refine rdH (i := 7) (fun K hK => ?_)
      go_simp
      generalize hy : w2.alloc _ = w3
      obtain ⟨b3, k3⟩ := Bx.alloc hy
      refine bkH hK (by first | (dsimp only; exact (k5.below b3 k5.1).2.1) | (exact (k5.below b3 k5.1).2.1)) (fun hHeld => ?_)
      clear hK K
      refine wpAnyH_ready (rs := [8]) (by kernel_rfl) (by simp) ?_
      refine AllReadyH.cons (by (simp only [List.getElem?_toArray, List.getElem?_cons_succ, List.getElem?_cons_zero]; rfl)) (fun K hK => ?_) AllReadyH.nil
      rw [if_pos (by rfl)]
      obtain ⟨xs, hrow, hrb⟩ := hown.row
      have hrow2 := hrow
      rw [htl] at hrow2
      refine step_app1 _ _ 24 rfl w.heap.size 52 ti (.agg #[.int .i64 0, .slice none 0 0]) 2 32 Try.underlying24 hi hz0 hz1 hz2 rfl (by decide) _ _ _ rfl (own_below hrow2 b3 (own_lt hrow2)) #[.int .i64 fs[k].f, .slice ua fs[k].os.length uc] rfl ?_ w2.heap.size rfl ?_ ?_ ?_ ?_ ?_
      · simp [Value.oneCell']
      · exact k3.2.1
      · unfold maxLen; omega
      · omega
      · have := bb.size; have := b3.size; omega
      · intro v3 w4 o3 g3 alt
        have g2 : w2.grownBy w4 (Value.slice va k vc).ownBlock := by
          have := World.grownBy_alloc w2 (.cells #[.int .i64 fs[k].f, .slice ua fs[k].os.length uc] 52) (Value.slice va k vc).ownBlock
          rw [hy] at this
          exact this.trans' g3
        have hbs0 := bb.size
        have hw3 : w3.heap.size = w2.heap.size + 1 := by rw [← hy, World.size_alloc]
        have hown3 := OwnH.snoc (x := fs[k]) hown (own_base ou (show w.heap.size ≤ x1.heap.size by omega)) hul (by omega) g2 (fun ys hy => by rw [htl]; exact (own_uniq hy hrow) ▸ o3) (by rw [← hw3]; exact alt)
        rw [List.take_append_getElem hlt] at hown3
        have K6 := (k5.below b3 k5.1).grown g3 (fun e => by have := hrb _ e.symm; omega)
        have BB := Lib.hid (bb.trans (((bx.trans (b3.mono bx.size)).mono bb.size).trans (Below.of_grown g3 (by have := b3.size; omega) (fun q hq => (hrb q hq).1))))
        have H3 := Lib.hid hown3
        refine hK.out _ _ (by first | (dsimp only; exact K6.2.1) | (exact K6.2.1)) (fun hHeld => ?_)
        clear hK K K6 hown3 g2 g3 alt o3 hrow hrow2 hrb hy b3 k3 k5 hown ou hul bx b2 bb ro
        try simp only [Act.put, List.setIfInBounds_toArray, List.set_cons_zero, List.set_cons_succ]
        refine tkH (i := 9) ?_
        refine wpAnyH_done (by kernel_rfl) ?_ _
        go_wp2
        go_roundw
        case rel => exact ⟨k + 1, hlt, by go_num, BB.out, H3.out⟩
        case measure => simp [intOf]; omega
    · have hki : ¬ ((k : Int) < (fs.length : Int)) := by omega
      obtain rfl : k = fs.length := by omega
      rw [List.take_length] at hown
      go_wp2
      go_ret
      exact ⟨_, rfl, hown.to_f, bb⟩

end Go.Proofs.Ytlkdlcpfcacigaa
