/-
Operations that write, but for calls.
-/
import Derived.Test.YtjidglpldjcmdaaGreatEvP
set_option linter.unusedVariables false
set_option linter.unusedSimpArgs false
set_option maxRecDepth 20000
namespace Go.Ev
open Go

theorem LR.one {ρ : Rho} {l : List S} {vs : List Value} (h : LR (SR ρ) l vs) : ∀ v ∈ vs, v.oneCell' = true := LR.all (Q := fun v => v.oneCell' = true) (fun _ _ => SR.one) h

/-- A store of cells. -/
theorem store_cells {P : Program} {ρ : Rho} {s s' : St} {w : World} (h : Rel ρ s w) {x o n : Nat} {l : List S} (hs : store s x o n l = some s') {cb sh z : Nat} (hx : ρ x = some (cb, sh, z)) {vs : List Value} (hl : LR (SR ρ) l vs) :
    vs.length = n ∧ ∃ w', (storeCells ⟨cb, sh + o, none⟩ vs).run P w = .ok () w' ∧ Rel ρ s' w' ∧ Go s ρ w s' ρ w' := by
  unfold store at hs
  replace hs := cond_some hs
  obtain ⟨hn, hs⟩ := hs
  rw [nbeq, beq_iff_eq, llen_eq] at hn
  split at hs
  · rename_i s1 hp
    obtain ⟨r1, r2, rnb, _, ⟨b, r3, _, r4⟩, _⟩ := prep_spec h hp
    subst hn
    obtain ⟨cur, e, h1, h2, h3, h4⟩ := setc_spec r1 hs hx r2 (fun b' hb' => by rw [r3] at hb'; simp only [Option.some.injEq] at hb'; subst hb'; exact r4) hl
    refine ⟨hl.length.symm, _, ?_, h3, h4.states rnb.symm rfl⟩
    have := run_storeCells_at P cb (sh + o) e vs 0 cur w h1 (by simpa using h2) hl.one
    simpa only [Nat.add_zero] using this
  · simp at hs

theorem run_append_place {P : Program} (w : World) (t ty e : TypeId) (i : TypeInfo) (ht : P.underlying t = some (.slice e)) (hi : P.info? e = some i)
    (g off sLen sCap : Nat) (cur : Array Value) (el : TypeId) (hg : w.heap[g]? = some (.cells cur el (0, 0)))
    (a : Addr) (m c : Nat) (news : List Value) (hl : news.length = m * i.size) (hnews : ∀ j u, news[j]? = some u → w.cell? (a.add j) = some u) (h1 : ∀ u ∈ news, u.oneCell' = true)
    (hroom : sLen + m ≤ sCap) (hfit : off + sLen * i.size + news.length ≤ cur.size) :
    (Builtin.append_ #[t, t] ty #[.slice (some ⟨g, off, none⟩) sLen sCap, .slice (some a) m c]).run P w =
      .ok (.slice (some ⟨g, off, none⟩) (sLen + m) sCap) (w.setRow g (cur.toList.take (off + sLen * i.size) ++ news ++ cur.toList.drop (off + sLen * i.size + news.length)).toArray) := by
  have hf := run_firstCells_some (P := P) w i.size m a m c news hl hnews
  have hst := run_storeCells_at P g (off + sLen * i.size) el news 0 cur w hg (by simpa using hfit) h1
  simp only [Nat.add_zero] at hst
  simp [Builtin.append_, run_underlying ht, sizeOf, typeInfo, hi, Builtin.lenOf, hroom, hf, add_addr, hst]

/-- Nothing is appended. -/
theorem run_append_zero {P : Program} (w : World) (t ty e : TypeId) (i : TypeInfo) (ht : P.underlying t = some (.slice e)) (hi : P.info? e = some i) (b : Option Addr) (n c : Nat) (hc : n ≤ c) (a : Option Addr) (c' : Nat) :
    (Builtin.append_ #[t, t] ty #[.slice b n c, .slice a 0 c']).run P w = .ok (.slice b n c) w := by
  have h0 : (Builtin.firstCells i.size 0 (.slice a 0 c')).run P w = .ok #[] w := by
    cases a with
    | none => simp [Builtin.firstCells]
    | some a => simp [Builtin.firstCells, loadCells, loadCellsFrom]
  cases b with
  | none => simp [Builtin.append_, run_underlying ht, sizeOf, typeInfo, hi, Builtin.lenOf, hc, h0]
  | some b => simp [Builtin.append_, run_underlying ht, sizeOf, typeInfo, hi, Builtin.lenOf, hc, h0, storeCells]

theorem newsOf_spec {ρ : Rho} {s : St} {w : World} (h : Rel ρ s w) {sz m : Nat} {y : S} {ns : List S} (hn : newsOf s sz y = some (m, ns)) {cy : Value} (hy : SR ρ y cy) :
    ∃ a c, cy = .slice a m c ∧ ((m = 0 ∧ ns = []) ∨ ∃ (ad : Addr) (vs : List Value), a = some ad ∧ 0 < m ∧ ns.length = m * sz ∧ vs.length = m * sz ∧ LR (SR ρ) ns vs ∧ ∀ j v, vs[j]? = some v → w.cell? (ad.add j) = some v) := by
  unfold newsOf at hn
  split at hn
  · simp only [Option.some.injEq, Prod.mk.injEq] at hn
    obtain ⟨rfl, rfl⟩ := hn
    exact ⟨none, 0, hy, .inl ⟨rfl, rfl⟩⟩
  · rename_i bl o n sz' full
    replace hn := cond_some hn
    obtain ⟨h1, hn⟩ := hn
    rw [nbeq, beq_iff_eq] at h1
    subst h1
    obtain ⟨cb, sh, zz, ad, cap, r1, r2, r3, r4, r5, r6, r7⟩ := hy
    cases n with
    | zero =>
      simp only [Option.some.injEq, Prod.mk.injEq] at hn
      obtain ⟨rfl, rfl⟩ := hn
      exact ⟨some ad, cap, r2, .inl ⟨rfl, rfl⟩⟩
    | succ n =>
      simp only at hn
      split at hn
      · rename_i l hl
        simp only [Option.some.injEq, Prod.mk.injEq] at hn
        obtain ⟨rfl, rfl⟩ := hn
        obtain ⟨cs, g1, g2, g3⟩ := h.cells_there hl r1
        refine ⟨some ad, cap, r2, .inr ⟨ad, cs, rfl, Nat.succ_pos _, by rw [g2.length]; exact g1, g1, g2, ?_⟩⟩
        rw [r5 (by omega)]
        exact g3
      · simp at hn
  · simp at hn

theorem m47_eq : m47 = 140737488355328 := rfl

/-- Append. -/
theorem app_sound {P : Program} {ty : TypeId → Option TyI} (hty : TyOk P ty) {t el : TypeId} {j : TyI} (hu : P.underlying t = some (.slice el)) (hj : ty el = some j) (hz : j.sz ≠ 0) (hzl : j.z.length = j.sz) {ρ : Rho} {s s' : St} {w : World} (h : Rel ρ s w)
    {x y : S} {cx cy : Value} (hx : SR ρ x cx) (hy : SR ρ y cy) {v : V} (hv : app s j.sz j.by_ x y = some (v, s')) (ty' : TypeId) :
    ∃ cv w' ρ', (Builtin.append_ #[t, t] ty' #[cx, cy]).run P w = .ok cv w' ∧ VR ρ' v cv ∧ Rel ρ' s' w' ∧ Go s ρ w s' ρ' w' := by
  obtain ⟨inf, zv, hi1, hi2, hi3, hi4, hi5⟩ := hty.info hj
  have hzs : zv.cells.size = inf.size := by
    have := (valL_lr ρ hi5).length
    rw [hi2, ← hzl, this]; simp
  unfold app at hv
  split at hv
  · simp at hv
  · rename_i m ns hn
    obtain ⟨ay, cc, rfl, hnews⟩ := newsOf_spec h hn hy
    split at hv
    · split at hv
      · simp only [Option.some.injEq, Prod.mk.injEq] at hv
        obtain ⟨rfl, rfl⟩ := hv
        have hx' : cx = .slice none 0 0 := hx
        subst hx'
        exact ⟨_, w, ρ, run_append_zero w t ty' el inf hu hi1 _ _ _ (Nat.le_refl _) ay cc, hx, h, Go.refl _ _ _⟩
      · simp only [Option.some.injEq, Prod.mk.injEq] at hv
        obtain ⟨rfl, rfl⟩ := hv
        have hx' := hx
        obtain ⟨cb, sh, zz, ad, cap, r1, r2, r3, r4, r5, r6, r7⟩ := hx'
        subst r2
        exact ⟨_, w, ρ, run_append_zero w t ty' el inf hu hi1 _ _ _ r3 ay cc, hx, h, Go.refl _ _ _⟩
      · simp at hv
    · rename_i m'
      rcases hnews with ⟨h0, _⟩ | ⟨ad', vs, rfl, hm0, hnl, hvl, hnr, hnc⟩
      · exact absurd h0 (Nat.succ_ne_zero _)
      · have hvl' : vs.length = (m' + 1) * inf.size := by rw [hi2]; exact hvl
        -- cells of a new block
        have pre : ∀ (olds : List Value) (old : List S), LR (SR ρ) old olds → ∀ (k : Nat),
            (old ++ ns).length ≤ (olds.toArray ++ vs.toArray ++ Builtin.zeroCells zv.cells k).size ∧
            ∀ (i : Nat) sv, (old ++ ns)[i]? = some sv → ∃ cv, (olds.toArray ++ vs.toArray ++ Builtin.zeroCells zv.cells k)[i]? = some cv ∧ SR ρ sv cv := by
          intro olds old ho k
          have hl := (ho.append hnr).length
          refine ⟨by simp at hl ⊢; omega, fun i sv hi => ?_⟩
          obtain ⟨cv, h1, h2⟩ := (ho.append hnr).get hi
          have hi' : i < (olds ++ vs).length := (List.getElem?_eq_some_iff.1 h1).1
          refine ⟨cv, ?_, h2⟩
          have : (olds.toArray ++ vs.toArray ++ Builtin.zeroCells zv.cells k).toList[i]? = some cv := by
            simp only [Array.toList_append]
            rw [List.getElem?_append_left hi']
            exact h1
          rw [← Array.getElem?_toList]
          exact this
        split at hv
        · obtain ⟨hb, hv⟩ := cond_some hv
          obtain ⟨hb1, hb2⟩ := ble2 hb
          rw [m47_eq] at hb1
          rw [m63_eq] at hb2
          simp only [Option.some.injEq, Prod.mk.injEq] at hv
          obtain ⟨rfl, rfl⟩ := hv
          have hx' : cx = .slice none 0 0 := hx
          subst hx'
          have hb1' : (m' + 1) * inf.bytes ≤ 140737488355328 := by rw [hi3]; exact hb1
          have hb2' : m' + 1 ≤ 9223372036854775807 := hb2
          have hrun := run_append_nil (P := P) w t ty' el inf zv hu hi1 hi4 ad' (m' + 1) cc vs hvl' hnc (by omega) (by omega) (by omega)
          obtain ⟨p1, p2⟩ := pre [] [] trivial (grownCap w (m' + 1) 0 el - (m' + 1))
          simp only [List.nil_append] at p1 p2
          have e0 : (([] : List Value).toArray ++ vs.toArray ++ Builtin.zeroCells zv.cells (grownCap w (m' + 1) 0 el - (m' + 1))) = vs.toArray ++ Builtin.zeroCells zv.cells (grownCap w (m' + 1) 0 el - (m' + 1)) := by simp
          rw [e0] at p1 p2
          obtain ⟨a1, a2⟩ := h.drew.alloc' p1 p2 el
          refine ⟨_, _, _, hrun, ?_, a1, ⟨a2.le, a2.os, a2.tape, a2.output, a2.size, a2.block, a2.new, a2.nbs, a2.fresh⟩⟩
          have hge := grownCap_ge w (m' + 1) 0 el
          refine ⟨w.heap.size, 0, _, _, _, Rho.with_at _ _ _, rfl, hge, fun hh => by simp at hh, fun _ => rfl, ?_, by omega⟩
          simp only [Array.size_append, size_zeroCells, List.size_toArray, hvl', hzs, hi2]
          rw [← Nat.add_mul]
          have : (m' + 1) + (grownCap w (m' + 1) 0 el - (m' + 1)) = grownCap w (m' + 1) 0 el := by omega
          rw [this]; omega
        · rename_i bl o n sz' full
          replace hv := cond_some hv
          obtain ⟨hb, hv⟩ := hv
          obtain ⟨hb0, hb9⟩ := (Bool.and_eq_true _ _).mp hb
          rw [nbeq, beq_iff_eq] at hb0
          subst hb0
          obtain ⟨hb1, hb2⟩ := ble2 hb9
          rw [m47_eq] at hb1
          rw [m63_eq] at hb2
          have hb1' : (n + (m' + 1)) * inf.bytes ≤ 140737488355328 := by rw [hi3]; exact hb1
          have hb2' : n + (m' + 1) ≤ 9223372036854775807 := hb2
          have hxx := hx
          obtain ⟨cb, sh, zz, ad, cap, r1, r2, r3, r4, r5, r6, r7⟩ := hxx
          subst r2
          split at hv
          · simp at hv
          · rename_i old hold
            -- the old cells
            have holds : ∃ olds : List Value, olds.length = n * inf.size ∧ old.length = n * j.sz ∧ LR (SR ρ) old olds ∧ (∀ jj v, olds[jj]? = some v → w.cell? (ad.add jj) = some v) ∧
                ∀ b, s.h.get bl = some b → ∀ (i : Nat) sv, old[i]? = some sv → b.c[o + i]? = some sv := by
              cases n with
              | zero =>
                simp only [Option.some.injEq] at hold; subst hold
                exact ⟨[], by simp, by simp, trivial, fun _ _ h => by simp at h, fun _ _ _ _ h => by simp at h⟩
              | succ n =>
                simp only at hold
                obtain ⟨cs, g1, g2, g3⟩ := h.cells_there hold r1
                refine ⟨cs, by rw [hi2]; exact g1, by rw [g2.length]; exact g1, g2, ?_, ?_⟩
                · rw [r5 (by omega)]; exact g3
                · intro b hb i sv hi
                  unfold cellsAt at hold
                  rw [hb] at hold
                  simp only at hold
                  obtain ⟨_, hold⟩ := cond_some hold
                  simp only [Option.some.injEq, ltake_eq, ldrop_eq] at hold
                  rw [← hold, List.getElem?_take] at hi
                  split at hi
                  · simpa using hi
                  · simp at hi
            obtain ⟨olds, ho1, ho2, ho3, ho4, ho5⟩ := holds
            have hge := grownCap_ge w (n + (m' + 1)) cap el
            -- the new array
            have fresh : cap < n + (m' + 1) → ∀ (s2 : St), (∀ cells : Array Value, (old ++ ns).length ≤ cells.size → (∀ (i : Nat) sv, (old ++ ns)[i]? = some sv → ∃ cv, cells[i]? = some cv ∧ SR ρ sv cv) →
                Rel (ρ.with s.nb (w.drew.heap.size, 0, cells.size)) s2 (w.drew.alloc (.cells cells el)) ∧ Go s ρ w.drew s2 (ρ.with s.nb (w.drew.heap.size, 0, cells.size)) (w.drew.alloc (.cells cells el))) →
                ∃ cv w' ρ', (Builtin.append_ #[t, t] ty' #[.slice (some ad) n cap, .slice (some ad') (m' + 1) cc]).run P w = .ok cv w' ∧ VR ρ' (.c (.l s.nb 0 (n + (m' + 1)) j.sz false)) cv ∧ Rel ρ' s2 w' ∧ Go s ρ w s2 ρ' w' := by
              intro hlt s2 hs2
              have hrun := run_append_grow (P := P) w t ty' el inf zv hu hi1 hi4 ad n cap olds ho1 ho4 ad' (m' + 1) cc vs hvl' hnc hlt (by omega) (growslice_fits hlt hb1')
              obtain ⟨p1, p2⟩ := pre olds old ho3 (grownCap w (n + (m' + 1)) cap el - (n + (m' + 1)))
              obtain ⟨a1, a2⟩ := hs2 _ p1 p2
              refine ⟨_, _, _, hrun, ?_, a1, ⟨a2.le, a2.os, a2.tape, a2.output, a2.size, a2.block, a2.new, a2.nbs, a2.fresh⟩⟩
              refine ⟨w.heap.size, 0, _, _, _, Rho.with_at _ _ _, rfl, hge, fun hh => by simp at hh, fun _ => rfl, ?_, by omega⟩
              simp only [Array.size_append, size_zeroCells, List.size_toArray, hvl', ho1, hzs, hi2]
              rw [← Nat.add_mul, ← Nat.add_mul]
              have : n + (m' + 1) + (grownCap w (n + (m' + 1)) cap el - (n + (m' + 1))) = grownCap w (n + (m' + 1)) cap el := by omega
              rw [this]; omega
            cases full with
            | true =>
              simp only [cond_true, Option.some.injEq, Prod.mk.injEq] at hv
              obtain ⟨rfl, rfl⟩ := hv
              have hcap := r4 rfl
              rw [lapp_eq]
              exact fresh (by omega) _ fun cells c1 c2 => h.drew.alloc' c1 c2 el
            | false =>
              simp only [cond_false] at hv
              split at hv
              · simp at hv
              · rename_i s1 d f ms hf
                simp only [Option.some.injEq, Prod.mk.injEq] at hv
                obtain ⟨rfl, rfl⟩ := hv
                obtain ⟨q1, q2, q3, q4, b, b', q5, q6, q7, q8, q9⟩ := famOf_spec h hf
                rw [lapp_eq, llen_eq]
                by_cases hroom : n + (m' + 1) ≤ cap
                · have had : ad = ⟨cb, sh + o, none⟩ := r5 (by omega)
                  subst had
                  have hfit : sh + o + n * j.sz + vs.length ≤ zz := by
                    have e1 : n * j.sz + (m' + 1) * j.sz ≤ cap * j.sz := by rw [← Nat.add_mul]; exact Nat.mul_le_mul_right _ hroom
                    have e2 : vs.length = (m' + 1) * j.sz := hvl
                    omega
                  obtain ⟨cur, e, k1, k2, k3, k4⟩ := grow_place q1 q3 q4 q6 q8 r1 ho2 (o := o) (fun i sv hi => by rw [q7]; exact ho5 b q5 i sv hi) hnr hfit
                  have hrun := run_append_place w t ty' el inf hu hi1 cb (sh + o) n cap cur e k1 ad' (m' + 1) cc vs hvl' hnc hnr.one hroom (by rw [hi2]; exact k2)
                  rw [hi2] at hrun
                  rw [q2] at k3 k4
                  subst q9
                  refine ⟨_, _, _, hrun, ?_, k3, k4.states q2.symm rfl⟩
                  refine ⟨cb, sh + o, zz, _, cap, Rho.with_at _ _ _, rfl, hroom, fun hh => by simp at hh, fun _ => rfl, ?_, by omega⟩
                  omega
                · refine fresh (by omega) _ fun cells c1 c2 => ?_
                  have := grow_new q1.drew q3 q4 (d := Nat.add d o) (lo := Nat.add (Nat.add d o) (Nat.mul n j.sz)) (hi := Nat.add (Nat.add (Nat.add d o) (Nat.mul n j.sz)) ns.length) c1 c2 el
                  rw [q2] at this
                  exact ⟨this.1, this.2.states q2.symm rfl⟩
        · simp at hv
end Go.Ev
