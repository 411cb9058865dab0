/- Parts of the proof of FnBytes. -/
import Derived.Test.YtdmkhipimcjipaaGreatZ04
import Derived.LoopN
set_option linter.unusedVariables false
set_option linter.unusedSimpArgs false
section
set_option linter.unusedVariables false
set_option linter.unusedSimpArgs false
set_option maxRecDepth 20000
namespace Go.Ev
open Go
theorem LR.one {ρ : Rho} {l : List S} {vs : List Value} (h : LR (SR ρ) l vs) : ∀ v ∈ vs, v.oneCell' = true := LR.all (Q := fun v => v.oneCell' = true) (fun _ _ => SR.one) h
theorem store_cells {P : Program} {ρ : Rho} {s s' : St} {w : World} (h : Rel ρ s w) {x o n : Nat} {l : List S} (hs : store s x o n l = some s') {cb sh z : Nat} (hx : ρ x = some (cb, sh, z)) {vs : List Value} (hl : LR (SR ρ) l vs) :
    vs.length = n ∧ ∃ w', (storeCells ⟨cb, sh + o, none⟩ vs).run P w = .ok () w' ∧ Rel ρ s' w' ∧ Go s ρ w s' ρ w' := by
  unfold store at hs
  replace hs := cond_some hs
  obtain ⟨hn, hs⟩ := hs
  rw [nbeq, beq_iff_eq, llen_eq] at hn
  split at hs
  · rename_i s1 hp
    obtain ⟨r1, r2, rnb, _, ⟨b, r3, _, r4⟩, _⟩ := prep_spec h hp
    subst hn
    obtain ⟨cur, e, h1, h2, h3, h4⟩ := setc_spec r1 hs hx r2 (fun b' hb' => by rw [r3] at hb'; simp only [Option.some.injEq] at hb'; subst hb'; exact r4) hl
    refine ⟨hl.length.symm, _, ?_, h3, h4.states rnb.symm rfl⟩
    have := run_storeCells_at P cb (sh + o) e vs 0 cur w h1 (by simpa using h2) hl.one
    simpa only [Nat.add_zero] using this
  · simp at hs
theorem run_append_place {P : Program} (w : World) (t ty e : TypeId) (i : TypeInfo) (ht : P.underlying t = some (.slice e)) (hi : P.info? e = some i)
    (g off sLen sCap : Nat) (cur : Array Value) (el : TypeId) (hg : w.heap[g]? = some (.cells cur el (0, 0)))
    (a : Addr) (m c : Nat) (news : List Value) (hl : news.length = m * i.size) (hnews : ∀ j u, news[j]? = some u → w.cell? (a.add j) = some u) (h1 : ∀ u ∈ news, u.oneCell' = true)
    (hroom : sLen + m ≤ sCap) (hfit : off + sLen * i.size + news.length ≤ cur.size) :
    (Builtin.append_ #[t, t] ty #[.slice (some ⟨g, off, none⟩) sLen sCap, .slice (some a) m c]).run P w =
      .ok (.slice (some ⟨g, off, none⟩) (sLen + m) sCap) (w.setRow g (cur.toList.take (off + sLen * i.size) ++ news ++ cur.toList.drop (off + sLen * i.size + news.length)).toArray) := by
  have hf := run_firstCells_some (P := P) w i.size m a m c news hl hnews
  have hst := run_storeCells_at P g (off + sLen * i.size) el news 0 cur w hg (by simpa using hfit) h1
  simp only [Nat.add_zero] at hst
  simp [Builtin.append_, run_underlying ht, sizeOf, typeInfo, hi, Builtin.lenOf, hroom, hf, add_addr, hst]
theorem run_append_zero {P : Program} (w : World) (t ty e : TypeId) (i : TypeInfo) (ht : P.underlying t = some (.slice e)) (hi : P.info? e = some i) (b : Option Addr) (n c : Nat) (hc : n ≤ c) (a : Option Addr) (c' : Nat) :
    (Builtin.append_ #[t, t] ty #[.slice b n c, .slice a 0 c']).run P w = .ok (.slice b n c) w := by
  have h0 : (Builtin.firstCells i.size 0 (.slice a 0 c')).run P w = .ok #[] w := by
    cases a with
    | none => simp [Builtin.firstCells]
    | some a => simp [Builtin.firstCells, loadCells, loadCellsFrom]
  cases b with
  | none => simp [Builtin.append_, run_underlying ht, sizeOf, typeInfo, hi, Builtin.lenOf, hc, h0]
  | some b => simp [Builtin.append_, run_underlying ht, sizeOf, typeInfo, hi, Builtin.lenOf, hc, h0, storeCells]
theorem newsOf_spec {ρ : Rho} {s : St} {w : World} (h : Rel ρ s w) {sz m : Nat} {y : S} {ns : List S} (hn : newsOf s sz y = some (m, ns)) {cy : Value} (hy : SR ρ y cy) :
    ∃ a c, cy = .slice a m c ∧ ((m = 0 ∧ ns = []) ∨ ∃ (ad : Addr) (vs : List Value), a = some ad ∧ 0 < m ∧ ns.length = m * sz ∧ vs.length = m * sz ∧ LR (SR ρ) ns vs ∧ ∀ j v, vs[j]? = some v → w.cell? (ad.add j) = some v) := by
  unfold newsOf at hn
  split at hn
  · simp only [Option.some.injEq, Prod.mk.injEq] at hn
    obtain ⟨rfl, rfl⟩ := hn
    exact ⟨none, 0, hy, .inl ⟨rfl, rfl⟩⟩
  · rename_i bl o n sz' full
    replace hn := cond_some hn
    obtain ⟨h1, hn⟩ := hn
    rw [nbeq, beq_iff_eq] at h1
    subst h1
    obtain ⟨cb, sh, zz, ad, cap, r1, r2, r3, r4, r5, r6, r7⟩ := hy
    cases n with
    | zero =>
      simp only [Option.some.injEq, Prod.mk.injEq] at hn
      obtain ⟨rfl, rfl⟩ := hn
      exact ⟨some ad, cap, r2, .inl ⟨rfl, rfl⟩⟩
    | succ n =>
      simp only at hn
      split at hn
      · rename_i l hl
        simp only [Option.some.injEq, Prod.mk.injEq] at hn
        obtain ⟨rfl, rfl⟩ := hn
        obtain ⟨cs, g1, g2, g3⟩ := h.cells_there hl r1
        refine ⟨some ad, cap, r2, .inr ⟨ad, cs, rfl, Nat.succ_pos _, by rw [g2.length]; exact g1, g1, g2, ?_⟩⟩
        rw [r5 (by omega)]
        exact g3
      · simp at hn
  · simp at hn
theorem m47_eq : m47 = 140737488355328 := rfl
theorem app_sound {P : Program} {ty : TypeId → Option TyI} (hty : TyOk P ty) {t el : TypeId} {j : TyI} (hu : P.underlying t = some (.slice el)) (hj : ty el = some j) (hz : j.sz ≠ 0) (hzl : j.z.length = j.sz) {ρ : Rho} {s s' : St} {w : World} (h : Rel ρ s w)
    {x y : S} {cx cy : Value} (hx : SR ρ x cx) (hy : SR ρ y cy) {v : V} (hv : app s j.sz j.by_ x y = some (v, s')) (ty' : TypeId) :
    ∃ cv w' ρ', (Builtin.append_ #[t, t] ty' #[cx, cy]).run P w = .ok cv w' ∧ VR ρ' v cv ∧ Rel ρ' s' w' ∧ Go s ρ w s' ρ' w' := by
  obtain ⟨inf, zv, hi1, hi2, hi3, hi4, hi5⟩ := hty.info hj
  have hzs : zv.cells.size = inf.size := by
    have := (valL_lr ρ hi5).length
    rw [hi2, ← hzl, this]; simp
  unfold app at hv
  split at hv
  · simp at hv
  · rename_i m ns hn
    obtain ⟨ay, cc, rfl, hnews⟩ := newsOf_spec h hn hy
    split at hv
    · split at hv
      · simp only [Option.some.injEq, Prod.mk.injEq] at hv
        obtain ⟨rfl, rfl⟩ := hv
        have hx' : cx = .slice none 0 0 := hx
        subst hx'
        exact ⟨_, w, ρ, run_append_zero w t ty' el inf hu hi1 _ _ _ (Nat.le_refl _) ay cc, hx, h, Go.refl _ _ _⟩
      · simp only [Option.some.injEq, Prod.mk.injEq] at hv
        obtain ⟨rfl, rfl⟩ := hv
        have hx' := hx
        obtain ⟨cb, sh, zz, ad, cap, r1, r2, r3, r4, r5, r6, r7⟩ := hx'
        subst r2
        exact ⟨_, w, ρ, run_append_zero w t ty' el inf hu hi1 _ _ _ r3 ay cc, hx, h, Go.refl _ _ _⟩
      · simp at hv
    · rename_i m'
      rcases hnews with ⟨h0, _⟩ | ⟨ad', vs, rfl, hm0, hnl, hvl, hnr, hnc⟩
      · exact absurd h0 (Nat.succ_ne_zero _)
      · have hvl' : vs.length = (m' + 1) * inf.size := by rw [hi2]; exact hvl
        have pre : ∀ (olds : List Value) (old : List S), LR (SR ρ) old olds → ∀ (k : Nat),
            (old ++ ns).length ≤ (olds.toArray ++ vs.toArray ++ Builtin.zeroCells zv.cells k).size ∧
            ∀ (i : Nat) sv, (old ++ ns)[i]? = some sv → ∃ cv, (olds.toArray ++ vs.toArray ++ Builtin.zeroCells zv.cells k)[i]? = some cv ∧ SR ρ sv cv := by
          intro olds old ho k
          have hl := (ho.append hnr).length
          refine ⟨by simp at hl ⊢; omega, fun i sv hi => ?_⟩
          obtain ⟨cv, h1, h2⟩ := (ho.append hnr).get hi
          have hi' : i < (olds ++ vs).length := (List.getElem?_eq_some_iff.1 h1).1
          refine ⟨cv, ?_, h2⟩
          have : (olds.toArray ++ vs.toArray ++ Builtin.zeroCells zv.cells k).toList[i]? = some cv := by
            simp only [Array.toList_append]
            rw [List.getElem?_append_left hi']
            exact h1
          rw [← Array.getElem?_toList]
          exact this
        split at hv
        · obtain ⟨hb, hv⟩ := cond_some hv
          obtain ⟨hb1, hb2⟩ := ble2 hb
          rw [m47_eq] at hb1
          rw [m63_eq] at hb2
          simp only [Option.some.injEq, Prod.mk.injEq] at hv
          obtain ⟨rfl, rfl⟩ := hv
          have hx' : cx = .slice none 0 0 := hx
          subst hx'
          have hb1' : (m' + 1) * inf.bytes ≤ 140737488355328 := by rw [hi3]; exact hb1
          have hb2' : m' + 1 ≤ 9223372036854775807 := hb2
          have hrun := run_append_nil (P := P) w t ty' el inf zv hu hi1 hi4 ad' (m' + 1) cc vs hvl' hnc (by omega) (by omega) (by omega)
          obtain ⟨p1, p2⟩ := pre [] [] trivial (grownCap w (m' + 1) 0 el - (m' + 1))
          simp only [List.nil_append] at p1 p2
          have e0 : (([] : List Value).toArray ++ vs.toArray ++ Builtin.zeroCells zv.cells (grownCap w (m' + 1) 0 el - (m' + 1))) = vs.toArray ++ Builtin.zeroCells zv.cells (grownCap w (m' + 1) 0 el - (m' + 1)) := by simp
          rw [e0] at p1 p2
          obtain ⟨a1, a2⟩ := h.drew.alloc' p1 p2 el
          refine ⟨_, _, _, hrun, ?_, a1, ⟨a2.le, a2.os, a2.tape, a2.output, a2.size, a2.block, a2.new, a2.nbs, a2.fresh⟩⟩
          have hge := grownCap_ge w (m' + 1) 0 el
          refine ⟨w.heap.size, 0, _, _, _, Rho.with_at _ _ _, rfl, hge, fun hh => by simp at hh, fun _ => rfl, ?_, by omega⟩
          simp only [Array.size_append, size_zeroCells, List.size_toArray, hvl', hzs, hi2]
          rw [← Nat.add_mul]
          have : (m' + 1) + (grownCap w (m' + 1) 0 el - (m' + 1)) = grownCap w (m' + 1) 0 el := by omega
          rw [this]; omega
        · rename_i bl o n sz' full
          replace hv := cond_some hv
          obtain ⟨hb, hv⟩ := hv
          obtain ⟨hb0, hb9⟩ := (Bool.and_eq_true _ _).mp hb
          rw [nbeq, beq_iff_eq] at hb0
          subst hb0
          obtain ⟨hb1, hb2⟩ := ble2 hb9
          rw [m47_eq] at hb1
          rw [m63_eq] at hb2
          have hb1' : (n + (m' + 1)) * inf.bytes ≤ 140737488355328 := by rw [hi3]; exact hb1
          have hb2' : n + (m' + 1) ≤ 9223372036854775807 := hb2
          have hxx := hx
          obtain ⟨cb, sh, zz, ad, cap, r1, r2, r3, r4, r5, r6, r7⟩ := hxx
          subst r2
          split at hv
          · simp at hv
          · rename_i old hold
            have holds : ∃ olds : List Value, olds.length = n * inf.size ∧ old.length = n * j.sz ∧ LR (SR ρ) old olds ∧ (∀ jj v, olds[jj]? = some v → w.cell? (ad.add jj) = some v) ∧
                ∀ b, s.h.get bl = some b → ∀ (i : Nat) sv, old[i]? = some sv → b.c[o + i]? = some sv := by
              cases n with
              | zero =>
                simp only [Option.some.injEq] at hold; subst hold
                exact ⟨[], by simp, by simp, trivial, fun _ _ h => by simp at h, fun _ _ _ _ h => by simp at h⟩
              | succ n =>
                simp only at hold
                obtain ⟨cs, g1, g2, g3⟩ := h.cells_there hold r1
                refine ⟨cs, by rw [hi2]; exact g1, by rw [g2.length]; exact g1, g2, ?_, ?_⟩
                · rw [r5 (by omega)]; exact g3
                · intro b hb i sv hi
                  unfold cellsAt at hold
                  rw [hb] at hold
                  simp only at hold
                  obtain ⟨_, hold⟩ := cond_some hold
                  simp only [Option.some.injEq, ltake_eq, ldrop_eq] at hold
                  rw [← hold, List.getElem?_take] at hi
                  split at hi
                  · simpa using hi
                  · simp at hi
            obtain ⟨olds, ho1, ho2, ho3, ho4, ho5⟩ := holds
            have hge := grownCap_ge w (n + (m' + 1)) cap el
            have fresh : cap < n + (m' + 1) → ∀ (s2 : St), (∀ cells : Array Value, (old ++ ns).length ≤ cells.size → (∀ (i : Nat) sv, (old ++ ns)[i]? = some sv → ∃ cv, cells[i]? = some cv ∧ SR ρ sv cv) →
                Rel (ρ.with s.nb (w.drew.heap.size, 0, cells.size)) s2 (w.drew.alloc (.cells cells el)) ∧ Go s ρ w.drew s2 (ρ.with s.nb (w.drew.heap.size, 0, cells.size)) (w.drew.alloc (.cells cells el))) →
                ∃ cv w' ρ', (Builtin.append_ #[t, t] ty' #[.slice (some ad) n cap, .slice (some ad') (m' + 1) cc]).run P w = .ok cv w' ∧ VR ρ' (.c (.l s.nb 0 (n + (m' + 1)) j.sz false)) cv ∧ Rel ρ' s2 w' ∧ Go s ρ w s2 ρ' w' := by
              intro hlt s2 hs2
              have hrun := run_append_grow (P := P) w t ty' el inf zv hu hi1 hi4 ad n cap olds ho1 ho4 ad' (m' + 1) cc vs hvl' hnc hlt (by omega) (growslice_fits hlt hb1')
              obtain ⟨p1, p2⟩ := pre olds old ho3 (grownCap w (n + (m' + 1)) cap el - (n + (m' + 1)))
              obtain ⟨a1, a2⟩ := hs2 _ p1 p2
              refine ⟨_, _, _, hrun, ?_, a1, ⟨a2.le, a2.os, a2.tape, a2.output, a2.size, a2.block, a2.new, a2.nbs, a2.fresh⟩⟩
              refine ⟨w.heap.size, 0, _, _, _, Rho.with_at _ _ _, rfl, hge, fun hh => by simp at hh, fun _ => rfl, ?_, by omega⟩
              simp only [Array.size_append, size_zeroCells, List.size_toArray, hvl', ho1, hzs, hi2]
              rw [← Nat.add_mul, ← Nat.add_mul]
              have : n + (m' + 1) + (grownCap w (n + (m' + 1)) cap el - (n + (m' + 1))) = grownCap w (n + (m' + 1)) cap el := by omega
              rw [this]; omega
            cases full with
            | true =>
              simp only [cond_true, Option.some.injEq, Prod.mk.injEq] at hv
              obtain ⟨rfl, rfl⟩ := hv
              have hcap := r4 rfl
              rw [lapp_eq]
              exact fresh (by omega) _ fun cells c1 c2 => h.drew.alloc' c1 c2 el
            | false =>
              simp only [cond_false] at hv
              split at hv
              · simp at hv
              · rename_i s1 d f ms hf
                simp only [Option.some.injEq, Prod.mk.injEq] at hv
                obtain ⟨rfl, rfl⟩ := hv
                obtain ⟨q1, q2, q3, q4, b, b', q5, q6, q7, q8, q9⟩ := famOf_spec h hf
                rw [lapp_eq, llen_eq]
                by_cases hroom : n + (m' + 1) ≤ cap
                · have had : ad = ⟨cb, sh + o, none⟩ := r5 (by omega)
                  subst had
                  have hfit : sh + o + n * j.sz + vs.length ≤ zz := by
                    have e1 : n * j.sz + (m' + 1) * j.sz ≤ cap * j.sz := by rw [← Nat.add_mul]; exact Nat.mul_le_mul_right _ hroom
                    have e2 : vs.length = (m' + 1) * j.sz := hvl
                    omega
                  obtain ⟨cur, e, k1, k2, k3, k4⟩ := grow_place q1 q3 q4 q6 q8 r1 ho2 (o := o) (fun i sv hi => by rw [q7]; exact ho5 b q5 i sv hi) hnr hfit
                  have hrun := run_append_place w t ty' el inf hu hi1 cb (sh + o) n cap cur e k1 ad' (m' + 1) cc vs hvl' hnc hnr.one hroom (by rw [hi2]; exact k2)
                  rw [hi2] at hrun
                  rw [q2] at k3 k4
                  subst q9
                  refine ⟨_, _, _, hrun, ?_, k3, k4.states q2.symm rfl⟩
                  refine ⟨cb, sh + o, zz, _, cap, Rho.with_at _ _ _, rfl, hroom, fun hh => by simp at hh, fun _ => rfl, ?_, by omega⟩
                  omega
                · refine fresh (by omega) _ fun cells c1 c2 => ?_
                  have := grow_new q1.drew q3 q4 (d := Nat.add d o) (lo := Nat.add (Nat.add d o) (Nat.mul n j.sz)) (hi := Nat.add (Nat.add (Nat.add d o) (Nat.mul n j.sz)) ns.length) c1 c2 el
                  rw [q2] at this
                  exact ⟨this.1, this.2.states q2.symm rfl⟩
        · simp at hv
end Go.Ev
end
section
set_option linter.unusedVariables false
set_option linter.unusedSimpArgs false
set_option maxRecDepth 20000
namespace Go.Ev
open Go
theorem run_append_make {P : Program} (w : World) (t t' ty e : TypeId) (i : TypeInfo) (k : IntKind) (z : Value) (ht : P.underlying t = some (.slice e)) (ht' : P.underlying t' = some (.int k)) (hi : P.info? e = some i) (hz : i.zero = some z)
    (n : Nat) (h0 : 0 < n) (hs : n * i.size ≠ 0) (h63 : (n : Int) ≤ 9223372036854775807) (h48 : n * i.bytes ≤ 140737488355328) :
    (Builtin.append_ #[t, t'] ty #[.slice none 0 0, .int .i64 n]).run P w =
      .ok (.slice (some ⟨w.heap.size, 0, none⟩) n (grownCap w n 0 e)) (w.drew.alloc (.cells (Builtin.zeroCells z.cells n ++ Builtin.zeroCells z.cells (grownCap w n 0 e - n)) e)) := by
  have hn : n ≠ 0 := by omega
  have h63' : ¬ (9223372036854775807 < (n : Int)) := by omega
  have h48' : ¬ (281474976710656 < Builtin.nextslicecap n 0 * i.bytes) := by rw [nextslicecap_zero h0]; omega
  have hw : IntKind.i64.wrap (n : Int) = n := IntWalk.i64_in _ ⟨by omega, by omega⟩
  have h48i : ¬ (281474976710656 < (n : Int) * (i.bytes : Int)) := by
    have h1 : ((n * i.bytes : Nat) : Int) ≤ ((140737488355328 : Nat) : Int) := Int.ofNat_le.2 h48
    rw [Int.natCast_mul] at h1
    generalize (n : Int) * (i.bytes : Int) = q at h1 ⊢
    omega
  have hneg : ¬ ((n : Int) < 0) := by omega
  have hmax : max (n : Int) 0 = n := Int.max_eq_left (by omega)
  have hle : ¬ ((n : Int) ≤ 0) := by omega
  simp [Builtin.append_, run_underlying ht, run_underlying ht', sizeOf, typeInfo, zeroValue, hi, hz, asInt, asIntOf, hw, hn, hs, hneg, hle, hmax, h48i, h63', h48', Question.forced, run_firstCells_none, newRow, grownCap]
theorem apz_sound {P : Program} {ty : TypeId → Option TyI} (hty : TyOk P ty) {t t' el : TypeId} {k : IntKind} {j : TyI} (hu : P.underlying t = some (.slice el)) (hu' : P.underlying t' = some (.int k)) (hj : ty el = some j) (hz : j.sz ≠ 0) (hzl : j.z.length = j.sz) {ρ : Rho} {s s' : St} {w : World} (h : Rel ρ s w)
    {x : S} {cx cn : Value} (hx : SR ρ x cx) {n : Option Nat} (hn : ∀ m, n = some m → cn = .int .i64 m) {v : V} (hv : apzv s j.sz j.by_ j.z n x = some (v, s')) (ty' : TypeId) :
    ∃ cv w' ρ', (Builtin.append_ #[t, t'] ty' #[cx, cn]).run P w = .ok cv w' ∧ VR ρ' v cv ∧ Rel ρ' s' w' ∧ Go s ρ w s' ρ' w' := by
  obtain ⟨inf, zv, hi1, hi2, hi3, hi4, hi5⟩ := hty.info hj
  have hzs : zv.cells.size = inf.size := by
    have := (valL_lr ρ hi5).length
    rw [hi2, ← hzl, this]; simp
  unfold apzv at hv
  split at hv
  · have hx' : cx = .slice none 0 0 := hx
    subst hx'
    split at hv
    · simp only [Option.some.injEq, Prod.mk.injEq] at hv
      obtain ⟨rfl, rfl⟩ := hv
      have hc := hn 0 rfl
      subst hc
      refine ⟨.slice none 0 0, w, ρ, ?_, rfl, h, Go.refl _ _ _⟩
      have hw : IntKind.i64.wrap 0 = 0 := rfl
      simp [Builtin.append_, run_underlying hu, run_underlying hu', sizeOf, typeInfo, hi1, asInt, asIntOf, hw]
    · rename_i m
      obtain ⟨hb, hv⟩ := cond_some hv
      obtain ⟨hb1, hb2⟩ := ble2 hb
      rw [m47_eq] at hb1
      rw [m63_eq] at hb2
      simp only [Option.some.injEq, Prod.mk.injEq] at hv
      obtain ⟨rfl, rfl⟩ := hv
      have hc := hn (m + 1) rfl
      subst hc
      have hb1' : (m + 1) * inf.bytes ≤ 140737488355328 := by rw [hi3]; exact hb1
      have hb2' : m + 1 ≤ 9223372036854775807 := hb2
      have hs0 : (m + 1) * inf.size ≠ 0 := Nat.mul_ne_zero (by omega) (by rw [hi2]; exact hz)
      have hrun := run_append_make (P := P) w t t' ty' el inf k zv hu hu' hi1 hi4 (m + 1) (by omega) hs0 (by omega) hb1'
      have hge := grownCap_ge w (m + 1) 0 el
      have hlr := lrep_lr (valL_lr ρ hi5) (m + 1)
      have hlen : (lrep j.z (m + 1)).length = (m + 1) * zv.cells.size := by rw [lrep_length, hzl, hzs, hi2]
      obtain ⟨a1, a2⟩ := h.drew.alloc' (l := lrep j.z (m + 1)) (cells := Builtin.zeroCells zv.cells (m + 1) ++ Builtin.zeroCells zv.cells (grownCap w (m + 1) 0 el - (m + 1)))
        (by rw [hlen]; simp only [Array.size_append, size_zeroCells]; omega)
        (fun i sv hi => by
          obtain ⟨cv, q1, q2⟩ := hlr.get hi
          refine ⟨cv, ?_, q2⟩
          have hi' : i < (m + 1) * zv.cells.size := by rw [← hlen]; exact (List.getElem?_eq_some_iff.1 hi).1
          rw [Array.getElem?_append_left (by rw [size_zeroCells]; exact hi')]
          rw [← Array.getElem?_toList]
          exact q1) el
      refine ⟨_, _, _, hrun, ?_, a1, ⟨a2.le, a2.os, a2.tape, a2.output, a2.size, a2.block, a2.new, a2.nbs, a2.fresh⟩⟩
      refine ⟨w.heap.size, 0, _, _, _, Rho.with_at _ _ _, rfl, hge, fun hh => by simp at hh, fun _ => rfl, ?_, by omega⟩
      simp only [Array.size_append, size_zeroCells, hzs, hi2]
      rw [← Nat.add_mul]
      have : (m + 1) + (grownCap w (m + 1) 0 el - (m + 1)) = grownCap w (m + 1) 0 el := by omega
      rw [this]; omega
    · simp at hv
  · simp at hv
theorem clear_sound {P : Program} {ty : TypeId → Option TyI} (hty : TyOk P ty) {t el : TypeId} {j : TyI} (hu : P.underlying t = some (.slice el)) (hj : ty el = some j) (hzl : j.z.length = j.sz) {ρ : Rho} {s s' : St} {w : World} (h : Rel ρ s w)
    {x : S} {cx : Value} (hx : SR ρ x cx) {v : V} (hv : clrv s j.sz j.z x = some (v, s')) (ty' : TypeId) :
    ∃ cv w', (Builtin.clear_ #[t] ty' #[cx]).run P w = .ok cv w' ∧ VR ρ v cv ∧ Rel ρ s' w' ∧ Go s ρ w s' ρ w' := by
  obtain ⟨inf, zv, hi1, hi2, hi3, hi4, hi5⟩ := hty.info hj
  have hzs : zv.cells.size = j.sz := by
    have := (valL_lr ρ hi5).length
    rw [← hzl, this]; simp
  unfold clrv at hv
  split at hv
  · simp only [Option.some.injEq, Prod.mk.injEq] at hv
    obtain ⟨rfl, rfl⟩ := hv
    have hx' : cx = .slice none 0 0 := hx
    subst hx'
    refine ⟨.tuple #[], w, ?_, trivial, h, Go.refl _ _ _⟩
    unfold Builtin.clear_
    simp [run_under hu]
  · rename_i bl o n sz' full
    replace hv := cond_some hv
    obtain ⟨h1, hv⟩ := hv
    rw [nbeq, beq_iff_eq] at h1
    subst h1
    obtain ⟨cb, sh, zz, ad, cap, r1, r2, r3, r4, r5, r6, r7⟩ := hx
    subst r2
    by_cases hn : n = 0
    · subst hn
      simp only [nbeq, beq_self_eq_true, cond_true, Option.some.injEq, Prod.mk.injEq] at hv
      obtain ⟨rfl, rfl⟩ := hv
      refine ⟨.tuple #[], w, ?_, trivial, h, Go.refl _ _ _⟩
      unfold Builtin.clear_
      simp [run_under hu]
    · have : Nat.beq n 0 = false := by rw [nbeq]; simpa using hn
      rw [this, cond_false] at hv
      split at hv
      · rename_i s1 hs
        simp only [Option.some.injEq, Prod.mk.injEq] at hv
        obtain ⟨rfl, rfl⟩ := hv
        have hl := lrep_lr (valL_lr ρ hi5) n
        obtain ⟨_, w', k1, k2, k3⟩ := store_cells (P := P) h hs r1 hl
        refine ⟨.tuple #[], w', ?_, trivial, k2, k3⟩
        have had : ad = ⟨cb, sh + o, none⟩ := r5 (by omega)
        subst had
        unfold Builtin.clear_
        obtain ⟨n', rfl⟩ : ∃ n', n = n' + 1 := ⟨n - 1, by omega⟩
        simp only [Sem.run_bind, run_under hu, Result.andThen_ok, List.getElem?_toArray, List.getElem?_cons_zero, Sem.run_pure]
        simp only [run_zero hi1 hi4, Result.andThen_ok, Sem.run_bind]
        rw [show (Builtin.zeroCells zv.cells (n' + 1)).toList = ((Array.range ((n' + 1) * zv.cells.size)).map (zv.cells[· % zv.cells.size]!)).toList from rfl, k1]
        rfl
      · simp at hv
  · simp at hv
def CallOk (P : Program) (call : Nat → List V → St → Option (V × St)) : Prop :=
  ∀ g vs s v s', call g vs s = some (v, s') → ∀ (ρ : Rho) (w : World) (cargs : List Value), LR (VR ρ) vs cargs → Rel ρ s w →
    (callFunc g cargs.toArray).run P w = .ok (.enter g cargs.toArray) w ∧
    Calls P g cargs.toArray w fun e w' => ∃ cv ρ', e = .returned cv ∧ VR ρ' v cv ∧ Rel ρ' s' w' ∧ Go s ρ w s' ρ' w'
section
variable {P : Program} {ty : TypeId → Option TyI} {ibs : FuncId → Bool} {call : Nat → List V → St → Option (V × St)}
theorem Oper.wp_value {o : Oper} {a : Act} {w w' : World} {next : Act → World → Prop} {Q : Exit → Act → World → Prop} {cv : Value} (h : (execOp a.eval o).run P w = .ok (.value cv) w') (hn : next (a.put o.dst cv) w') : o.wp P a w next Q := by
  unfold Oper.wp; rw [h]; exact hn
theorem Oper.wp_skip {o : Oper} {a : Act} {w w' : World} {next : Act → World → Prop} {Q : Exit → Act → World → Prop} (h : (execOp a.eval o).run P w = .ok .skip w') (hn : next (a.put o.dst undef) w') : o.wp P a w next Q := by
  unfold Oper.wp; rw [h]; exact hn
theorem Oper.wp_enter {o : Oper} {a : Act} {w w' : World} {next : Act → World → Prop} {Q : Exit → Act → World → Prop} {f : FuncId} {args : Array Value} (h : (execOp a.eval o).run P w = .ok (.enter f args) w') {R : Ending → World → Prop}
    (hc : Calls P f args w' R) (hn : ∀ e w'', R e w'' → ∃ cv, e = .returned cv ∧ next (a.put o.dst cv) w'') : o.wp P a w next Q := by
  unfold Oper.wp; rw [h]
  refine Calls.mono hc fun e w'' hr => ?_
  obtain ⟨cv, rfl, h2⟩ := hn e w'' hr
  exact h2
theorem lr_ptrs {ρ : Rho} : ∀ {cs : List (Nat × Nat)} {vs : List Value}, LR (fun (c : Nat × Nat) v => PR ρ c.1 c.2 v) cs vs → LR (VR ρ) (cs.map fun c => V.c (.p c.1 c.2)) vs
  | [], [], _ => trivial
  | _ :: _, _ :: _, h => ⟨h.1, lr_ptrs h.2⟩
  | [], _ :: _, h => h.elim
  | _ :: _, [], h => h.elim
theorem mv_sound (hty : TyOk P ty) (hcall : CallOk P call) {o : Oper} {x : M} (h : cMO ty ibs o.op = some (.m x)) {ρ : Rho} {e : E} {a : Act} (he : ER ρ e a) {s s' : St} {w : World} (hr : Rel ρ s w) {v : V} (hv : mv call e s x = some (v, s'))
    {next : Act → World → Prop} {Q : Exit → Act → World → Prop} (hn : ∀ cv w' ρ', VR ρ' v cv → Rel ρ' s' w' → Go s ρ w s' ρ' w' → next (a.put o.dst cv) w') : o.wp P a w next Q := by
  obtain ⟨dst, op, type, pos, after, guard⟩ := o
  cases op
  case store t y z =>
    simp only [cMO] at h
    split at h <;> simp only [Option.some.injEq, reduceCtorEq, MO.m.injEq] at h
    rename_i i y' z' hi hy hz
    subst h
    obtain ⟨inf, zv, hi1, hi2, hi3, hi4, hi5⟩ := hty.info hi
    simp only [mv] at hv
    split at hv
    · rename_i bl o l h1 h2
      split at hv
      · rename_i s1 hs
        simp only [Option.some.injEq, Prod.mk.injEq] at hv
        obtain ⟨rfl, rfl⟩ := hv
        obtain ⟨cb, sh, zz, r1, r2⟩ := he.at hy h1
        have hl := VR.cells (he.ov hz) h2
        obtain ⟨k0, w', k1, k2, k3⟩ := store_cells (P := P) hr hs r1 hl
        refine Oper.wp_skip (w' := w') ?_ (hn undef w' ρ trivial k2 k3)
        have : (Instr.storeAt t (a.eval y) (a.eval z)).run P w = .ok () w' := by
          unfold Instr.storeAt storeVar
          simp only [r2, Instr.sureAddr, Sem.run_bind, Sem.run_pure, Result.andThen_ok, run_size hi1]
          rw [if_neg (by rw [hi2, ← k0]; simp)]
          exact k1
        simp only [execOp, Sem.run_bind, this, Result.andThen_ok]
        rfl
      · simp at hv
    · simp at hv
  case call c =>
    simp only [cMO] at h
    split at h
    · rename_i l hl
      split at h
      · rename_i b hc
        unfold cBuiltin at h
        split at h
        · split at h
          · split at h <;> simp at h
          · simp at h
        · split at h
          · split at h <;> simp at h
          · simp at h
        · simp at h
        · simp at h
        · rename_i x' y' t t' ht
          split at h
          · rename_i j j' hj hj'
            split at h
            · simp at h
            · rename_i hcc
              simp only [not_or, Decidable.not_not] at hcc
              obtain ⟨hz, hzl⟩ := hcc
              split at h
              rotate_left
              · split at h
                · rename_i ik hik
                  simp only [Option.some.injEq, MO.m.injEq] at h; subst h
                  obtain ⟨el, hu, hje⟩ := hty.elem hj
                  have hu' := hty.under hj'
                  rw [hik] at hu'
                  obtain ⟨x1, y1, ha, hx1, hy1⟩ := cOs_two hl
                  simp only [mv] at hv
                  have hux : Ev.os e x' ≠ .un := by
                    intro hh
                    rw [hh] at hv
                    simp [apzv] at hv
                  obtain ⟨cv, w', ρ', k1, k2, k3, k4⟩ := apz_sound hty hu hu' hje hz hzl hr (he.os hx1 rfl hux) (fun n hn => on_sound he hy1 hn) hv type
                  refine Oper.wp_value (w' := w') ?_ (hn cv w' ρ' k2 k3 k4)
                  rw [show execOp a.eval ⟨dst, .call c, type, pos, after, guard⟩ = (do let d ← resolve a.eval c type; invoke d.target d.args) from rfl, exec_builtin hc]
                  rw [show c.args.map a.eval = #[a.eval x1, a.eval y1] by rw [← Array.toArray_toList (xs := c.args), ha]; simp]
                  rw [show c.argTypes = #[t, t'] by rw [← Array.toArray_toList (xs := c.argTypes), ht]]
                  unfold builtin
                  simp only [Sem.run_bind, k1, Result.andThen_ok, Sem.run_pure]
                · simp at h
              rename_i htt
              subst htt
              simp only [Option.some.injEq, MO.m.injEq] at h; subst h
              obtain ⟨el, hu, hje⟩ := hty.elem hj
              obtain ⟨x1, y1, ha, hx1, hy1⟩ := cOs_two hl
              simp only [mv] at hv
              have hux : Ev.os e x' ≠ .un := by
                intro hh
                rw [hh] at hv
                unfold app at hv
                split at hv
                · simp at hv
                · split at hv
                  · split at hv <;> simp_all
                  · split at hv <;> simp_all
              have huy : Ev.os e y' ≠ .un := by
                intro hh
                rw [hh] at hv
                simp [app, newsOf] at hv
              obtain ⟨cv, w', ρ', k1, k2, k3, k4⟩ := app_sound hty hu hje hz hzl hr (he.os hx1 rfl hux) (he.os hy1 rfl huy) hv type
              refine Oper.wp_value (w' := w') ?_ (hn cv w' ρ' k2 k3 k4)
              rw [show execOp a.eval ⟨dst, .call c, type, pos, after, guard⟩ = (do let d ← resolve a.eval c type; invoke d.target d.args) from rfl, exec_builtin hc]
              rw [show c.args.map a.eval = #[a.eval x1, a.eval y1] by rw [← Array.toArray_toList (xs := c.args), ha]; simp]
              rw [show c.argTypes = #[t, t] by rw [← Array.toArray_toList (xs := c.argTypes), ht]]
              unfold builtin
              simp only [Sem.run_bind, k1, Result.andThen_ok, Sem.run_pure]
          · simp at h
        · rename_i x' t ht
          split at h
          · rename_i j hj
            split at h
            · simp at h
            · rename_i hcc
              simp only [not_or, Decidable.not_not] at hcc
              obtain ⟨hz, hzl⟩ := hcc
              simp only [Option.some.injEq, MO.m.injEq] at h; subst h
              obtain ⟨el, hu, hje⟩ := hty.elem hj
              obtain ⟨x1, ha, hx1⟩ : ∃ x1, c.args.toList = [x1] ∧ cO x1 = some x' := by
                match hargs : c.args.toList, hl with
                | [x1], hl =>
                  unfold cOs at hl
                  split at hl
                  · rename_i y1 m1 h1 h2
                    simp only [Option.some.injEq, List.cons.injEq] at hl
                    obtain ⟨rfl, rfl⟩ := hl
                    exact ⟨x1, rfl, h1⟩
                  · simp at hl
                | [], hl => simp [cOs] at hl
                | x1 :: y1 :: r, hl =>
                  unfold cOs at hl
                  split at hl
                  · rename_i y1 m1 h1 h2
                    simp only [Option.some.injEq, List.cons.injEq] at hl
                    obtain ⟨rfl, rfl⟩ := hl
                    unfold cOs at h2
                    split at h2 <;> simp at h2
                  · simp at hl
              simp only [mv] at hv
              have hux : Ev.os e x' ≠ .un := by
                intro hh
                rw [hh] at hv
                simp [clrv] at hv
              obtain ⟨cv, w', k1, k2, k3, k4⟩ := clear_sound hty hu hje hzl hr (he.os hx1 rfl hux) hv type
              refine Oper.wp_value (w' := w') ?_ (hn cv w' ρ k2 k3 k4)
              rw [show execOp a.eval ⟨dst, .call c, type, pos, after, guard⟩ = (do let d ← resolve a.eval c type; invoke d.target d.args) from rfl, exec_builtin hc]
              rw [show c.args.map a.eval = #[a.eval x1] by rw [← Array.toArray_toList (xs := c.args), ha]; simp]
              rw [show c.argTypes = #[t] by rw [← Array.toArray_toList (xs := c.argTypes), ht]]
              unfold builtin
              simp only [Sem.run_bind, k1, Result.andThen_ok, Sem.run_pure]
          · simp at h
        · simp at h
      · rename_i f hc
        split at h
        · split at h <;> simp at h
        · simp only [Option.some.injEq, MO.m.injEq] at h; subst h
          simp only [mv] at hv
          obtain ⟨k1, k2⟩ := hcall _ _ _ _ _ hv ρ w _ (he.ovs hl) hr
          refine Oper.wp_enter (w' := w) ?_ k2 ?_
          · rw [show execOp a.eval ⟨dst, .call c, type, pos, after, guard⟩ = (do let d ← resolve a.eval c type; invoke d.target d.args) from rfl, exec_call hc rfl]
            rw [show c.args.map a.eval = (c.args.toList.map a.eval).toArray by rw [← Array.toList_map]]
            exact k1
          · rintro e' w'' ⟨cv, ρ', rfl, k3, k4, k5⟩
            exact ⟨cv, rfl, hn cv w'' ρ' k3 k4 k5⟩
      · rename_i fx hne hc
        simp only [Option.map_eq_some_iff] at h
        obtain ⟨f', hf, h⟩ := h
        simp only [MO.m.injEq] at h; subst h
        simp only [mv] at hv
        split at hv
        · rename_i g cs h1
          obtain ⟨arr, r1, r2⟩ := he.at hf h1
          rw [lapp_eq] at hv
          obtain ⟨k1, k2⟩ := hcall _ _ _ _ _ hv ρ w _ ((he.ovs hl).append (lr_ptrs r2)) hr
          refine Oper.wp_enter (w' := w) ?_ k2 ?_
          · rw [show execOp a.eval ⟨dst, .call c, type, pos, after, guard⟩ = (do let d ← resolve a.eval c type; invoke d.target d.args) from rfl]
            unfold resolve
            simp only [hc, r1, Deferred.ofValue, Sem.run_bind, Sem.run_pure, Result.andThen_ok, invoke]
            rw [show #[] ++ c.args.map a.eval ++ arr = (c.args.toList.map a.eval ++ arr.toList).toArray by simp]
            exact k1
          · rintro e' w'' ⟨cv, ρ', rfl, k3, k4, k5⟩
            exact ⟨cv, rfl, hn cv w'' ρ' k3 k4 k5⟩
        · simp at hv
      · simp at h
    · simp at h
  case makeFunc fn first caps =>
    cases fn <;> simp only [cMO, reduceCtorEq] at h
    split at h <;> simp at h
  all_goals
    first
      | (simp only [cMO, reduceCtorEq] at h; done)
      | (simp only [cMO, Option.map_eq_some_iff, reduceCtorEq, and_false, exists_false] at h; done)
      | (simp only [cMO] at h; (repeat' split at h) <;> simp at h; done)
theorem mo_sound (hty : TyOk P ty) (hib : IbsOk P ibs) (hcall : CallOk P call) {o : Oper} {x : MO} (h : cMO ty ibs o.op = some x) {ρ : Rho} {e : E} {a : Act} (he : ER ρ e a) {s s' : St} {w : World} (hr : Rel ρ s w) {v : V} (hv : mo call e s x = some (v, s'))
    {next : Act → World → Prop} {Q : Exit → Act → World → Prop} (hn : ∀ cv w' ρ', VR ρ' v cv → Rel ρ' s' w' → Go s ρ w s' ρ' w' → next (a.put o.dst cv) w') : o.wp P a w next Q := by
  obtain ⟨dst, op, type, pos, after, guard⟩ := o
  cases x with
  | w x =>
    simp only [mo] at hv
    split at hv
    · rename_i v' hv'
      simp only [Option.some.injEq, Prod.mk.injEq] at hv
      obtain ⟨rfl, rfl⟩ := hv
      obtain ⟨cv, h1, h2⟩ := wv_sound hty hib h he hv' dst type pos after guard w
      exact Oper.wp_value h1 (hn cv w ρ h2 hr (Go.refl _ _ _))
    · simp at hv
  | r x =>
    simp only [mo] at hv
    split at hv
    · rename_i v' hv'
      simp only [Option.some.injEq, Prod.mk.injEq] at hv
      obtain ⟨rfl, rfl⟩ := hv
      obtain ⟨cv, h1, h2⟩ := rv_sound hty h he hr hv' dst type pos after guard
      exact Oper.wp_value h1 (hn cv w ρ h2 hr (Go.refl _ _ _))
    · simp at hv
  | a x =>
    simp only [mo] at hv
    split at hv
    · rename_i l f hv'
      simp only [Option.some.injEq, Prod.mk.injEq] at hv
      obtain ⟨rfl, rfl⟩ := hv
      obtain ⟨cv, cells, el, h1, h2, h3⟩ := av_sound hty h he hv' dst type pos after guard w
      obtain ⟨k1, k2⟩ := hr.alloc h2 el
      exact Oper.wp_value h1 (hn cv _ _ (h3 _ _ (Rho.with_at _ _ _)) k1 k2)
    · simp at hv
  | m x => exact mv_sound hty hcall h he hr hv hn
end
end Go.Ev
end
section
set_option linter.unusedVariables false
set_option linter.unusedSimpArgs false
set_option maxRecDepth 20000
namespace Go.Ev
open Go
inductive HS where
  | ev (i : Nat)
  | e2 (i j : Nat)
section
variable (ty : TypeId → Option TyI) (ibs : FuncId → Bool) (nt : Nat)
def cGuard (ops : Array Oper) : Option (Nat × Bool) → Option (Option (Nat × Bool))
  | none => some none
  | some (j, want) => match (ops[j]?).bind (·.dst) with
    | some d => some (some (d, want))
    | none => none
def dstOk : Option Tmp → Bool
  | none => true
  | some d => Nat.blt d nt
noncomputable def cStp (ops : Array Oper) (o : Oper) : Option Stp :=
  match cGuard ops o.guard, cMO ty ibs o.op with
  | some g, some x => if dstOk nt o.dst then some (.ev o.dst g x) else none
  | _, _ => none
noncomputable def cSeq (ops : Array Oper) : List Oper → Option (List Stp)
  | [] => some []
  | o :: l => match cStp ty ibs nt ops o, cSeq ops l with
    | some s, some m => some (s :: m)
    | _, _ => none
end
def FrOk (nt : Nat) (a : Act) : Prop := nt ≤ a.tmps.size ∧ a.defers = []
theorem FrOk.put {nt : Nat} {a : Act} (h : FrOk nt a) (dst : Option Tmp) (v : Value) : FrOk nt (a.put dst v) := by
  cases dst with
  | none => exact h
  | some d => exact ⟨by simpa [Act.put] using h.1, h.2⟩
theorem tmps_put {a : Act} {d t : Nat} {v : Value} (hd : d < a.tmps.size) : (a.put (some d) v).tmps.getD t undef = if t = d then v else a.tmps.getD t undef := by
  simp only [Act.put, Array.getD_eq_getD_getElem?, Array.getElem?_setIfInBounds]
  by_cases h : d = t
  · subst h; simp [hd]
  · rw [if_neg h, if_neg (fun e => h e.symm)]
theorem ER.put {ρ : Rho} {e : E} {a : Act} (he : ER ρ e a) {dst : Option Tmp} {v : V} {cv : Value} (hv : VR ρ v cv) {nt : Nat} (hd : dstOk nt dst = true) (hf : FrOk nt a) : ER ρ (put e dst v) (a.put dst cv) := by
  cases dst with
  | none => exact he
  | some d =>
    have hlt : d < a.tmps.size := by
      have h1 : d < nt := by
        have : Nat.ble (d + 1) nt = true := hd
        exact Nat.le_of_ble_eq_true this
      exact Nat.lt_of_lt_of_le h1 hf.1
    intro t u hu
    rw [tmps_put hlt]
    have hu' : (T.upd (some v) e d).get t = some u := hu
    rw [T.get_upd] at hu'
    by_cases h : t = d
    · rw [if_pos h] at hu' ⊢
      simp only [Option.some.injEq] at hu'; subst hu'; exact hv
    · rw [if_neg h] at hu' ⊢
      exact he t u hu'
theorem wanted_of {ρ : Rho} {e : E} {a : Act} (he : ER ρ e a) {ops : Array Oper} {o : Oper} {j : Nat} {want : Bool} {d : Tmp} (hg : o.guard = some (j, want)) (hj : (ops[j]?).bind (·.dst) = some d) :
    (∀ b, ov e (.t d) = .c (.b b) → Region.wanted o (yielded ops a.tmps) = (b == want)) ∧ (ov e (.t d) = .t [] → Region.wanted o (yielded ops a.tmps) = false) := by
  have hov := he.ov (x := .tmp d) (y := .t d) rfl
  have hev : a.eval (.tmp d) = a.tmps.getD d undef := rfl
  rw [hev] at hov
  constructor
  · intro b hb
    rw [hb] at hov
    have h1 : a.tmps.getD d undef = .bool b := hov
    have h2 : a.tmps[d]? = some (.bool b) := by
      rw [Array.getD_eq_getD_getElem?] at h1
      cases h3 : a.tmps[d]? with
      | none => rw [h3] at h1; simp [undef] at h1
      | some v => rw [h3] at h1; simpa using h1
    simp only [Region.wanted, hg, yielded, hj, Option.bind_some, h2]
    rw [Bool.eq_iff_iff]; simp
  · intro hb
    rw [hb] at hov
    obtain ⟨arr, h1, h2⟩ := hov
    simp only [Region.wanted, hg, yielded, hj, Option.bind_some]
    rw [Array.getD_eq_getD_getElem?] at h1
    cases h3 : a.tmps[d]? with
    | none => rfl
    | some v =>
      rw [h3] at h1
      simp only [Option.getD_some] at h1
      subst h1
      rfl
section
variable {P : Program} {ty : TypeId → Option TyI} {ibs : FuncId → Bool} {call : Nat → List V → St → Option (V × St)} {nt : Nat}
theorem ev_sound (hty : TyOk P ty) (hib : IbsOk P ibs) (hcall : CallOk P call) {ops : Array Oper} {i : Nat} {o : Oper} (hi : ops[i]? = some o) {g : Option (Nat × Bool)} (hg : cGuard ops o.guard = some g) {x : MO} (hx : cMO ty ibs o.op = some x) (hd : dstOk nt o.dst = true)
    {ρ : Rho} {e e' : E} {a : Act} (he : ER ρ e a) {s s' : St} {w : World} (hr : Rel ρ s w) (hf : FrOk nt a) (hs : evG call e s o.dst g x = some (e', s'))
    {K : Act → World → Prop} {Q : Exit → Act → World → Prop} (hK : ∀ a' w' ρ', ER ρ' e' a' → Rel ρ' s' w' → Go s ρ w s' ρ' w' → FrOk nt a' → K a' w') : wpOp P ops Q i K a w := by
  have run : ∀ {v : V} {s1 : St}, mo call e s x = some (v, s1) → e' = put e o.dst v → s' = s1 → o.wp P a w K Q := by
    intro v s1 h1 h2 h3
    subst h2 h3
    exact mo_sound hty hib hcall hx he hr h1 fun cv w' ρ' k1 k2 k3 => hK _ _ ρ' ((he.mono k3.le).put k1 hd hf) k2 k3 (hf.put _ _)
  have skip : Region.wanted o (yielded ops a.tmps) = false → e' = put e o.dst (.t []) → s' = s → wpOp P ops Q i K a w := by
    intro h1 h2 h3
    subst h2 h3
    unfold wpOp
    simp only [hi, h1, Bool.false_eq_true, if_false]
    exact hK _ _ ρ (he.put (v := .t []) ⟨#[], rfl, trivial⟩ hd hf) hr (Go.refl _ _ _) (hf.put _ _)
  have some_ : Region.wanted o (yielded ops a.tmps) = true → o.wp P a w K Q → wpOp P ops Q i K a w := by
    intro h1 h2
    unfold wpOp
    simp only [hi, h1, if_true]
    exact .inl h2
  cases hog : o.guard with
  | none =>
    rw [hog] at hg
    simp only [cGuard, Option.some.injEq] at hg; subst hg
    simp only [evG] at hs
    split at hs
    · rename_i v s1 h1
      simp only [Option.some.injEq, Prod.mk.injEq] at hs
      exact some_ (by simp [Region.wanted, hog]) (run h1 hs.1.symm hs.2.symm)
    · simp at hs
  | some q =>
    obtain ⟨j, want⟩ := q
    rw [hog] at hg
    simp only [cGuard] at hg
    split at hg
    · rename_i d hj
      simp only [Option.some.injEq] at hg; subst hg
      obtain ⟨w1, w2⟩ := wanted_of he hog hj
      simp only [evG] at hs
      split at hs
      · rename_i b hb
        have hw := w1 b hb
        have hbw : (bif b then want else not want) = (b == want) := by cases b <;> cases want <;> rfl
        rw [hbw] at hs
        cases hbb : (b == want) with
        | true =>
          rw [hbb, cond_true] at hs
          split at hs
          · rename_i v s1 h1
            simp only [Option.some.injEq, Prod.mk.injEq] at hs
            exact some_ (by rw [hw, hbb]) (run h1 hs.1.symm hs.2.symm)
          · simp at hs
        | false =>
          rw [hbb, cond_false] at hs
          simp only [Option.some.injEq, Prod.mk.injEq] at hs
          exact skip (by rw [hw, hbb]) hs.1.symm hs.2.symm
      · rename_i hb
        simp only [Option.some.injEq, Prod.mk.injEq] at hs
        exact skip (w2 hb) hs.1.symm hs.2.symm
      · simp at hs
    · simp at hg
theorem seq_sound (hty : TyOk P ty) (hib : IbsOk P ibs) (hcall : CallOk P call) {ops : Array Oper} {Q : Exit → Act → World → Prop} :
    ∀ (l : List Oper) (k : Nat) (st : List Stp), ops.toList.drop k = l → cSeq ty ibs nt ops l = some st → ∀ (e e' : E) (s s' : St) (ρ : Rho) (a : Act) (w : World), ER ρ e a → Rel ρ s w → FrOk nt a → reg call st e s = some (e', s') →
      (∀ a' w' ρ', ER ρ' e' a' → Rel ρ' s' w' → Go s ρ w s' ρ' w' → FrOk nt a' → Q .normal a' w') → wpOps P ops Q (List.range' k l.length) a w
  | [], k, st, hk, hc, e, e', s, s', ρ, a, w, he, hr, hf, hs, hQ => by
    simp only [cSeq, Option.some.injEq] at hc; subst hc
    have : some (e, s) = some (e', s') := hs
    simp only [Option.some.injEq, Prod.mk.injEq] at this
    obtain ⟨rfl, rfl⟩ := this
    exact hQ a w ρ he hr (Go.refl _ _ _) hf
  | o :: l, k, st, hk, hc, e, e', s, s', ρ, a, w, he, hr, hf, hs, hQ => by
    have hok : ops[k]? = some o := by
      have : ops.toList[k]? = some o := by
        have h1 : (ops.toList.drop k)[0]? = some o := by rw [hk]; rfl
        rw [List.getElem?_drop] at h1
        simpa using h1
      simpa using this
    have hk' : ops.toList.drop (k + 1) = l := by
      rw [← List.drop_drop, hk]; rfl
    unfold cSeq at hc
    split at hc
    · rename_i x m h1 h2
      simp only [Option.some.injEq] at hc; subst hc
      unfold cStp at h1
      split at h1
      · rename_i g y hg hy
        split at h1
        · rename_i hd
          simp only [Option.some.injEq] at h1; subst h1
          have hs' : (match evG call e s o.dst g y with | some (e, s) => reg call m e s | none => none) = some (e', s') := hs
          split at hs'
          · rename_i e1 s1 hs1
            simp only [List.length_cons, List.range'_succ]
            rw [wpOps_cons]
            refine ev_sound hty hib hcall hok hg hy hd he hr hf hs1 fun a1 w1 ρ1 k1 k2 k3 k4 => ?_
            exact seq_sound hty hib hcall l (k + 1) m hk' h2 e1 e' s1 s' ρ1 a1 w1 k1 k2 k4 hs' fun a2 w2 ρ2 j1 j2 j3 j4 => hQ a2 w2 ρ2 j1 j2 (k3.trans j3) j4
          · simp at hs'
        · simp at h1
      · simp at h1
    · simp at hc
end
section
variable (ty : TypeId → Option TyI) (ibs : FuncId → Bool) (nt : Nat) (cDraw : Array Oper → List HS → Option (List Stp))
def badL : List Stp := [.e2 0 (.k .o) (.k .o) 0 (.k .o) (.k .o)]
noncomputable def cCode : Code → List (List HS) → Option (MC × List (List HS))
  | .skip, h => some (.skip, h)
  | .region _ ops false, h => match cSeq ty ibs nt ops ops.toList with | some l => some (.reg l, h) | none => some (.reg badL, h)
  | .region _ ops true, x :: h => match cDraw ops x with | some l => some (.reg l, h) | none => some (.reg badL, h)
  | .seq a b, h => match cCode a h with
    | some (a, h) => match cCode b h with | some (b, h) => some (.seq a b, h) | none => none
    | none => none
  | .cond c a b, h => match cO c, cCode a h with
    | some c, some (a, h) => match cCode b h with | some (b, h) => some (.cond c a b, h) | none => none
    | _, _ => none
  | .block id b, h => match cCode b h with | some (b, h) => some (.blk id b, h) | none => none
  | .loop b, h => match cCode b h with | some (b, h) => some (.loop b, h) | none => none
  | .exit id, h => some (.exit id, h)
  | .ret, h => some (.ret, h)
  | _, _ => none
end
def Post (nt : Nat) (s0 : St) (ρ : Rho) (w : World) (Q : Exit → Act → World → Prop) : Rs → Prop
  | .no e s => ∀ a' w' ρ', ER ρ' e a' → Rel ρ' s w' → Go s0 ρ w s ρ' w' → FrOk nt a' → Q .normal a' w'
  | .ex id e s => ∀ a' w' ρ', ER ρ' e a' → Rel ρ' s w' → Go s0 ρ w s ρ' w' → FrOk nt a' → Q (.exit id) a' w'
  | .rt e s => ∀ a' w' ρ', ER ρ' e a' → Rel ρ' s w' → Go s0 ρ w s ρ' w' → FrOk nt a' → Q .ret a' w'
  | .bad => False
def DrawOk (P : Program) (call : Nat → List V → St → Option (V × St)) (nt : Nat) (cDraw : Array Oper → List HS → Option (List Stp)) : Prop :=
  ∀ (id : Nat) (ops : Array Oper) (x : List HS) (l : List Stp), cDraw ops x = some l → ∀ (e e' : E) (s s' : St) (ρ : Rho) (a : Act) (w : World) (Q : Exit → Act → World → Prop), ER ρ e a → Rel ρ s w → FrOk nt a → reg call l e s = some (e', s') →
    (∀ a' w' ρ', ER ρ' e' a' → Rel ρ' s' w' → Go s ρ w s' ρ' w' → FrOk nt a' → Q .normal a' w') → (Code.region id ops true).wp P Q a w
theorem Post.trans {nt : Nat} {s0 s1 : St} {ρ ρ' : Rho} {w w' : World} {Q : Exit → Act → World → Prop} {r : Rs} (hg : Go s0 ρ w s1 ρ' w') (h : Post nt s0 ρ w Q r) : Post nt s1 ρ' w' Q r := by
  cases r with
  | no e s => exact fun a2 w2 ρ2 h1 h2 h3 h4 => h a2 w2 ρ2 h1 h2 (hg.trans h3) h4
  | ex id e s => exact fun a2 w2 ρ2 h1 h2 h3 h4 => h a2 w2 ρ2 h1 h2 (hg.trans h3) h4
  | rt e s => exact fun a2 w2 ρ2 h1 h2 h3 h4 => h a2 w2 ρ2 h1 h2 (hg.trans h3) h4
  | bad => exact h
section
variable {P : Program} {ty : TypeId → Option TyI} {ibs : FuncId → Bool} {call : Nat → List V → St → Option (V × St)} {nt : Nat} {cDraw : Array Oper → List HS → Option (List Stp)} {N : Nat}
theorem code_sound (hty : TyOk P ty) (hib : IbsOk P ibs) (hcall : CallOk P call) (hdraw : DrawOk P call nt cDraw) : ∀ (c : Code) (h h' : List (List HS)) (m : MC), cCode ty ibs nt cDraw c h = some (m, h') →
    ∀ (e : E) (s : St) (ρ : Rho) (a : Act) (w : World) (Q : Exit → Act → World → Prop), ER ρ e a → Rel ρ s w → FrOk nt a → Post nt s ρ w Q (ev call N m e s) → c.wp P Q a w
  | .skip, h, h', m, hc, e, s, ρ, a, w, Q, he, hr, hf, hp => by
    simp only [cCode, Option.some.injEq, Prod.mk.injEq] at hc
    obtain ⟨rfl, _⟩ := hc
    exact wp_skip (hp a w ρ he hr (Go.refl _ _ _) hf)
  | .exit id, h, h', m, hc, e, s, ρ, a, w, Q, he, hr, hf, hp => by
    simp only [cCode, Option.some.injEq, Prod.mk.injEq] at hc
    obtain ⟨rfl, _⟩ := hc
    exact wp_exit (hp a w ρ he hr (Go.refl _ _ _) hf)
  | .ret, h, h', m, hc, e, s, ρ, a, w, Q, he, hr, hf, hp => by
    simp only [cCode, Option.some.injEq, Prod.mk.injEq] at hc
    obtain ⟨rfl, _⟩ := hc
    exact wp_ret (hp a w ρ he hr (Go.refl _ _ _) hf)
  | .region id ops false, h, h', m, hc, e, s, ρ, a, w, Q, he, hr, hf, hp => by
    simp only [cCode] at hc
    split at hc
    · rename_i l hl
      simp only [Option.some.injEq, Prod.mk.injEq] at hc
      obtain ⟨rfl, _⟩ := hc
      have hp' : Post nt s ρ w Q (match reg call l e s with | some (e, s) => .no e s | none => .bad) := hp
      split at hp'
      · rename_i e' s' hs
        refine wp_region ?_
        have := seq_sound (Q := Q) hty hib hcall ops.toList 0 l (by simp) hl e e' s s' ρ a w he hr hf hs hp'
        rw [List.range_eq_range']
        simpa using this
      · exact hp'.elim
    · simp only [Option.some.injEq, Prod.mk.injEq] at hc
      obtain ⟨rfl, _⟩ := hc
      have hp' : Post nt s ρ w Q (match reg call badL e s with | some (e, s) => .no e s | none => .bad) := hp
      exact hp'.elim
  | .region id ops true, h, h', m, hc, e, s, ρ, a, w, Q, he, hr, hf, hp => by
    cases h with
    | nil => simp [cCode] at hc
    | cons x h =>
      simp only [cCode] at hc
      split at hc
      · rename_i l hl
        simp only [Option.some.injEq, Prod.mk.injEq] at hc
        obtain ⟨rfl, _⟩ := hc
        have hp' : Post nt s ρ w Q (match reg call l e s with | some (e, s) => .no e s | none => .bad) := hp
        split at hp'
        · rename_i e' s' hs
          exact hdraw id ops x l hl e e' s s' ρ a w Q he hr hf hs hp'
        · exact hp'.elim
      · simp only [Option.some.injEq, Prod.mk.injEq] at hc
        obtain ⟨rfl, _⟩ := hc
        have hp' : Post nt s ρ w Q (match reg call badL e s with | some (e, s) => .no e s | none => .bad) := hp
        exact hp'.elim
  | .seq x y, h, h', m, hc, e, s, ρ, a, w, Q, he, hr, hf, hp => by
    simp only [cCode] at hc
    split at hc
    · rename_i x' h1 hx
      split at hc
      · rename_i y' h2 hy
        simp only [Option.some.injEq, Prod.mk.injEq] at hc
        obtain ⟨rfl, _⟩ := hc
        have hp' : Post nt s ρ w Q (match ev call N x' e s with | .no e s => ev call N y' e s | r => r) := hp
        refine wp_seq (code_sound hty hib hcall hdraw x h h1 x' hx e s ρ a w _ he hr hf ?_)
        cases hr1 : ev call N x' e s with
        | no e1 s1 =>
          rw [hr1] at hp'
          intro a1 w1 ρ1 k1 k2 k3 k4
          exact code_sound hty hib hcall hdraw y h1 h2 y' hy e1 s1 ρ1 a1 w1 Q k1 k2 k4 (Post.trans k3 hp')
        | ex id e1 s1 => rw [hr1] at hp'; exact hp'
        | rt e1 s1 => rw [hr1] at hp'; exact hp'
        | bad => rw [hr1] at hp'; exact hp'
      · simp at hc
    · simp at hc
  | .cond c x y, h, h', m, hc, e, s, ρ, a, w, Q, he, hr, hf, hp => by
    simp only [cCode] at hc
    split at hc
    · rename_i c' x' h1 hcc hx
      split at hc
      · rename_i y' h2 hy
        simp only [Option.some.injEq, Prod.mk.injEq] at hc
        obtain ⟨rfl, _⟩ := hc
        have hp' : Post nt s ρ w Q (match os e c' with | .b b => Bool.rec (ev call N y' e s) (ev call N x' e s) b | _ => .bad) := hp
        split at hp'
        · rename_i b hb
          have hb' : a.eval c = .bool b := he.at hcc hb
          cases b with
          | true => exact wp_cond_true hb' (code_sound hty hib hcall hdraw x h h1 x' hx e s ρ a w Q he hr hf hp')
          | false => exact wp_cond_false hb' (code_sound hty hib hcall hdraw y h1 h2 y' hy e s ρ a w Q he hr hf hp')
        · exact hp'.elim
      · simp at hc
    · simp at hc
  | .block id b, h, h', m, hc, e, s, ρ, a, w, Q, he, hr, hf, hp => by
    simp only [cCode] at hc
    split at hc
    · rename_i b' h1 hb
      simp only [Option.some.injEq, Prod.mk.injEq] at hc
      obtain ⟨rfl, _⟩ := hc
      have hp' : Post nt s ρ w Q (match ev call N b' e s with | .ex id' e s => bif Nat.beq id' id then .no e s else .ex id' e s | r => r) := hp
      refine wp_block (code_sound hty hib hcall hdraw b h h1 b' hb e s ρ a w _ he hr hf ?_)
      cases hr1 : ev call N b' e s with
      | no e1 s1 => rw [hr1] at hp'; exact hp'
      | ex id' e1 s1 =>
        rw [hr1] at hp'
        simp only at hp'
        intro a1 w1 ρ1 k1 k2 k3 k4
        show if id' = id then Q .normal a1 w1 else Q (.exit id') a1 w1
        rw [nbeq] at hp'
        by_cases hid : id' = id
        · have : (id' == id) = true := by simpa using hid
          rw [this, cond_true] at hp'
          rw [if_pos hid]
          exact hp' a1 w1 ρ1 k1 k2 k3 k4
        · have : (id' == id) = false := by simpa using hid
          rw [this, cond_false] at hp'
          rw [if_neg hid]
          exact hp' a1 w1 ρ1 k1 k2 k3 k4
      | rt e1 s1 => rw [hr1] at hp'; exact hp'
      | bad => rw [hr1] at hp'; exact hp'
    · simp at hc
  | .loop b, h, h', m, hc, e, s, ρ, a, w, Q, he, hr, hf, hp => by
    simp only [cCode] at hc
    split at hc
    · rename_i b' h1 hb
      simp only [Option.some.injEq, Prod.mk.injEq] at hc
      obtain ⟨rfl, _⟩ := hc
      refine wp_loop_rounds N ?_
      have key : ∀ (n : Nat) (e : E) (s : St) (ρ : Rho) (a : Act) (w : World), ER ρ e a → Rel ρ s w → FrOk nt a →
          Post nt s ρ w Q (Nat.rec (motive := fun _ => E → St → Rs) (fun _ _ => .bad) (fun _ ih e s => match ev call N b' e s with | .no e s => ih e s | r => r) n e s) → Code.rounds P b Q n a w := by
        intro n
        induction n with
        | zero => intro e s ρ a w _ _ _ hp; exact hp.elim
        | succ n ih =>
          intro e s ρ a w he hr hf hp
          rw [rounds_succ]
          have hp' : Post nt s ρ w Q (match ev call N b' e s with | .no e s => (Nat.rec (motive := fun _ => E → St → Rs) (fun _ _ => .bad) (fun _ ih e s => match ev call N b' e s with | .no e s => ih e s | r => r) n e s) | r => r) := hp
          refine code_sound hty hib hcall hdraw b h h1 b' hb e s ρ a w _ he hr hf ?_
          cases hr1 : ev call N b' e s with
          | no e1 s1 =>
            rw [hr1] at hp'
            intro a1 w1 ρ1 k1 k2 k3 k4
            exact ih e1 s1 ρ1 a1 w1 k1 k2 k4 (Post.trans k3 hp')
          | ex id e1 s1 => rw [hr1] at hp'; exact hp'
          | rt e1 s1 => rw [hr1] at hp'; exact hp'
          | bad => rw [hr1] at hp'; exact hp'
      exact key N e s ρ a w he hr hf hp
    · simp at hc
  | .scope _, h, h', m, hc, _, _, _, _, _, _, _, _, _, _ => by simp [cCode] at hc
  | .label _, h, h', m, hc, _, _, _, _, _, _, _, _, _, _ => by simp [cCode] at hc
  | .goto _, h, h', m, hc, _, _, _, _, _, _, _, _, _, _ => by simp [cCode] at hc
  | .refuse _, h, h', m, hc, _, _, _, _, _, _, _, _, _, _ => by simp [cCode] at hc
  | .rangeFunc _ _ _ _, h, h', m, hc, _, _, _, _, _, _, _, _, _, _ => by simp [cCode] at hc
end
end Go.Ev
end
