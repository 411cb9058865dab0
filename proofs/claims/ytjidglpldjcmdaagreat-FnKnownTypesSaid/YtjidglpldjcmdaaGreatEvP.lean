/-
Append, stores and clear: what the evaluator does is what the model does, whatever the capacities.
-/
import Derived.Test.YtjidglpldjcmdaaGreatEvN
set_option linter.unusedVariables false
set_option linter.unusedSimpArgs false
set_option maxRecDepth 20000
namespace Go.Ev
open Go

/-! A block's family. -/
theorem famOf_spec {ρ : Rho} {s s' : St} {w : World} (h : Rel ρ s w) {bl d f : Nat} {ms : List (Nat × Nat × Nat)} (hf : famOf s bl = some (s', d, f, ms)) :
    Rel ρ s' w ∧ s'.nb = s.nb ∧ s'.fm.get f = some ms ∧ f < s'.nf ∧ ∃ b b', s.h.get bl = some b ∧ s'.h.get bl = some b' ∧ b'.c = b.c ∧ b'.fam = f + 1 ∧ b'.d = d := by
  unfold famOf at hf
  cases hb : s.h.get bl with
  | none => rw [hb] at hf; simp at hf
  | some b =>
    rw [hb] at hf
    simp only at hf
    cases hfa : b.fam with
    | zero =>
      rw [hfa] at hf
      simp only [Option.some.injEq, Prod.mk.injEq] at hf
      obtain ⟨rfl, rfl, rfl, rfl⟩ := hf
      have hget : ∀ y, (T.upd (some (⟨b.c, Nat.succ s.nf, 0⟩ : Bk)) s.h bl).get y = if y = bl then some ⟨b.c, Nat.succ s.nf, 0⟩ else s.h.get y := fun y => T.get_upd _ _ _ _
      have hfm : ∀ g, (T.upd (some [(bl, 0, llen b.c)]) s.fm s.nf).get g = if g = s.nf then some [(bl, 0, llen b.c)] else s.fm.get g := fun g => T.get_upd _ _ _ _
      refine ⟨⟨h.dom, h.blk, ?_, ?_, ?_, ?_, ?_⟩, rfl, (hfm s.nf).trans (if_pos rfl), Nat.lt_succ_self _, b, ⟨b.c, Nat.succ s.nf, 0⟩, rfl, (hget bl).trans (if_pos rfl), rfl, rfl, rfl⟩
      · intro x cb sh z b' hx hb'
        change (T.upd (some (⟨b.c, Nat.succ s.nf, 0⟩ : Bk)) s.h bl).get x = some b' at hb'
        rw [hget] at hb'
        split at hb'
        · rename_i e; subst e
          simp only [Option.some.injEq] at hb'; subst hb'
          exact h.con x cb sh z b hx hb
        · exact h.con x cb sh z b' hx hb'
      · intro x y cb sh sh' z z' b1 b2 hne hx hy h1 h2
        change (T.upd (some (⟨b.c, Nat.succ s.nf, 0⟩ : Bk)) s.h bl).get x = some b1 at h1
        change (T.upd (some (⟨b.c, Nat.succ s.nf, 0⟩ : Bk)) s.h bl).get y = some b2 at h2
        rw [hget] at h1 h2
        split at h1
        · rename_i e; subst e
          split at h2
          · rename_i e'; exact absurd e'.symm hne
          · have := h.inj x y cb sh sh' z z' b b2 hne hx hy hb h2
            exact absurd hfa this.2.1
        · split at h2
          · rename_i e'; subst e'
            have := h.inj x y cb sh sh' z z' b1 b hne hx hy h1 hb
            exact absurd (this.1.trans hfa) this.2.1
          · exact h.inj x y cb sh sh' z z' b1 b2 hne hx hy h1 h2
      · intro x b' g hb' hg
        change (T.upd (some (⟨b.c, Nat.succ s.nf, 0⟩ : Bk)) s.h bl).get x = some b' at hb'
        rw [hget] at hb'
        show ∃ ms, (T.upd (some [(bl, 0, llen b.c)]) s.fm s.nf).get g = some ms ∧ _
        rw [hfm]
        split at hb'
        · rename_i e; subst e
          simp only [Option.some.injEq] at hb'; subst hb'
          have : g = s.nf := by simpa using hg.symm
          subst this
          rw [if_pos rfl]
          exact ⟨_, rfl, by simp [llen_eq]⟩
        · have hlt := h.nfl x b' hb'
          rw [if_neg (by omega)]
          exact h.fam x b' g hb' hg
      · intro x b' hb'
        change (T.upd (some (⟨b.c, Nat.succ s.nf, 0⟩ : Bk)) s.h bl).get x = some b' at hb'
        rw [hget] at hb'
        show b'.fam ≤ s.nf + 1
        split at hb'
        · simp only [Option.some.injEq] at hb'; subst hb'; exact Nat.le_refl _
        · have := h.nfl x b' hb'; omega
      · intro x b' hb'
        change (T.upd (some (⟨b.c, Nat.succ s.nf, 0⟩ : Bk)) s.h bl).get x = some b' at hb'
        rw [hget] at hb'
        split at hb'
        · rename_i e; subst e; exact h.lt x b hb
        · exact h.lt x b' hb'
    | succ g =>
      rw [hfa] at hf
      simp only at hf
      split at hf
      · simp at hf
      · rename_i ms' hms
        simp only [Option.some.injEq, Prod.mk.injEq] at hf
        obtain ⟨rfl, rfl, rfl, rfl⟩ := hf
        exact ⟨h, rfl, hms, by have := h.nfl bl b hb; omega, b, b, rfl, hb, rfl, hfa, rfl⟩

/-- What growing a family leaves: whatever lies where the new cells may come is given up. -/
theorem grow_spec {ρ : Rho} {s : St} {w : World} (h : Rel ρ s w) {f d lo hi : Nat} {ms : List (Nat × Nat × Nat)} (hms : s.fm.get f = some ms) (l : List S) :
    (∀ y b, (grow s f d lo hi ms l).h.get y = some b → (y = s.nb ∧ b = ⟨l, f + 1, d⟩) ∨ (y ≠ s.nb ∧ s.h.get y = some b ∧ (b.fam = f + 1 → ¬ (b.d < hi ∧ lo < b.d + b.c.length)))) ∧
    (∀ y b g, (grow s f d lo hi ms l).h.get y = some b → b.fam = g + 1 → ∃ ms', (grow s f d lo hi ms l).fm.get g = some ms' ∧ (y, b.d, b.c.length) ∈ ms') := by
  obtain ⟨k1, k2⟩ := kill_spec s.nb lo hi s.h ms
  have hget : ∀ y, (grow s f d lo hi ms l).h.get y = if y = s.nb then some ⟨l, f + 1, d⟩ else (kill s.nb lo hi s.h ms).1.get y := fun y => T.get_upd (some (⟨l, f + 1, d⟩ : Bk)) _ _ _
  have hfm : ∀ g, (grow s f d lo hi ms l).fm.get g = if g = f then some ((s.nb, d, llen l) :: (kill s.nb lo hi s.h ms).2) else s.fm.get g := fun g => T.get_upd (some ((s.nb, d, llen l) :: (kill s.nb lo hi s.h ms).2)) s.fm f g
  have hold : ∀ y b, y ≠ s.nb → (kill s.nb lo hi s.h ms).1.get y = some b → s.h.get y = some b ∧ (b.fam = f + 1 → (y, b.d, b.c.length) ∈ ms ∧ ¬ (b.d < hi ∧ lo < b.d + b.c.length)) := by
    intro y b hy hb
    have hb' := hb
    rw [k1] at hb
    split at hb
    · simp at hb
    · rename_i hno
      refine ⟨hb, fun hf => ?_⟩
      obtain ⟨ms', e1, e2⟩ := h.fam y b f hb hf
      rw [hms] at e1
      simp only [Option.some.injEq] at e1; subst e1
      exact ⟨e2, fun hov => hno ⟨_, e2, rfl, hy, hov⟩⟩
  refine ⟨fun y b hb => ?_, fun y b g hb hg => ?_⟩
  · rw [hget] at hb
    split at hb
    · rename_i e; simp only [Option.some.injEq] at hb; exact .inl ⟨e, hb.symm⟩
    · rename_i e
      obtain ⟨h1, h2⟩ := hold y b e hb
      exact .inr ⟨e, h1, fun hf => (h2 hf).2⟩
  · rw [hget] at hb
    rw [hfm]
    split at hb
    · rename_i e
      simp only [Option.some.injEq] at hb; subst hb
      have : g = f := by simpa using hg.symm
      subst this
      rw [if_pos rfl]
      exact ⟨_, rfl, by simp [e, llen_eq]⟩
    · rename_i e
      obtain ⟨h1, h2⟩ := hold y b e hb
      by_cases hgf : g = f
      · subst hgf
        rw [if_pos rfl]
        obtain ⟨h3, h4⟩ := h2 hg
        exact ⟨_, rfl, List.mem_cons_of_mem _ ((k2 _).2 ⟨h3, .inr h4⟩)⟩
      · rw [if_neg hgf]
        exact h.fam y b g h1 hg

/-- The grown block lies in new memory. -/
theorem grow_new {ρ : Rho} {s : St} {w : World} (h : Rel ρ s w) {f d lo hi : Nat} {ms : List (Nat × Nat × Nat)} (hms : s.fm.get f = some ms) (hfn : f < s.nf) {l : List S} {cells : Array Value} (hlen : l.length ≤ cells.size)
    (hl : ∀ (i : Nat) sv, l[i]? = some sv → ∃ cv, cells[i]? = some cv ∧ SR ρ sv cv) (el : TypeId) :
    Rel (ρ.with s.nb (w.heap.size, 0, cells.size)) (grow s f d lo hi ms l) (w.alloc (.cells cells el)) ∧ Go s ρ w (grow s f d lo hi ms l) (ρ.with s.nb (w.heap.size, 0, cells.size)) (w.alloc (.cells cells el)) := by
  obtain ⟨g1, g2⟩ := grow_spec (d := d) (lo := lo) (hi := hi) h hms l
  obtain ⟨ra, go⟩ := h.alloc' hlen hl el
  refine ⟨⟨ra.dom, ra.blk, ?_, ?_, g2, ?_, ?_⟩, go.states rfl rfl⟩
  · intro x cb sh z b hx hb
    rcases g1 x b hb with ⟨rfl, rfl⟩ | ⟨hne, hb', _⟩
    · exact ra.con s.nb cb sh z ⟨l, 0, 0⟩ hx (by rw [get_alloc, if_pos rfl])
    · exact ra.con x cb sh z b hx (by rw [get_alloc, if_neg hne]; exact hb')
  · intro x y cb sh sh' z z' bx b' hne hx hy hbx hby
    rcases g1 x bx hbx with ⟨rfl, rfl⟩ | ⟨hnx, hbx', _⟩
    · rcases g1 y b' hby with ⟨rfl, rfl⟩ | ⟨hny, hby', _⟩
      · exact absurd rfl hne
      · rw [Rho.with_at] at hx
        rw [Rho.with_ne hny] at hy
        simp only [Option.some.injEq, Prod.mk.injEq] at hx
        have := h.block_lt hy
        omega
    · rcases g1 y b' hby with ⟨rfl, rfl⟩ | ⟨hny, hby', _⟩
      · rw [Rho.with_at] at hy
        rw [Rho.with_ne hnx] at hx
        simp only [Option.some.injEq, Prod.mk.injEq] at hy
        have := h.block_lt hx
        omega
      · rw [Rho.with_ne hnx] at hx
        rw [Rho.with_ne hny] at hy
        exact h.inj x y cb sh sh' z z' bx b' hne hx hy hbx' hby'
  · intro x b hb
    show b.fam ≤ s.nf
    rcases g1 x b hb with ⟨rfl, rfl⟩ | ⟨hne, hb', _⟩
    · exact hfn
    · exact h.nfl x b hb'
  · intro x b hb
    show x < s.nb + 1
    rcases g1 x b hb with ⟨rfl, rfl⟩ | ⟨hne, hb', _⟩
    · omega
    · have := h.lt x b hb'; omega

/-- The grown block lies where the old one lies: the new cells were spare. -/
theorem grow_place {ρ : Rho} {s : St} {w : World} (h : Rel ρ s w) {f : Nat} {ms : List (Nat × Nat × Nat)} (hms : s.fm.get f = some ms) (hfn : f < s.nf) {bl o k : Nat} {b : Bk} (hb : s.h.get bl = some b) (hbf : b.fam = f + 1)
    {cb sh z : Nat} (hx : ρ bl = some (cb, sh, z)) {old ns : List S} (hold : old.length = k) (hoc : ∀ (i : Nat) sv, old[i]? = some sv → b.c[o + i]? = some sv) {vs : List Value} (hl : LR (SR ρ) ns vs) (hroom : sh + o + k + vs.length ≤ z) :
    ∃ cur e, w.heap[cb]? = some (.cells cur e (0, 0)) ∧ sh + o + k + vs.length ≤ cur.size ∧
      Rel (ρ.with s.nb (cb, sh + o, z)) (grow s f (b.d + o) (b.d + o + k) (b.d + o + k + ns.length) ms (old ++ ns)) (w.setRow cb (cur.toList.take (sh + o + k) ++ vs ++ cur.toList.drop (sh + o + k + vs.length)).toArray) ∧
      Go s ρ w (grow s f (b.d + o) (b.d + o + k) (b.d + o + k + ns.length) ms (old ++ ns)) (ρ.with s.nb (cb, sh + o, z)) (w.setRow cb (cur.toList.take (sh + o + k) ++ vs ++ cur.toList.drop (sh + o + k + vs.length)).toArray) := by
  obtain ⟨g1, g2⟩ := grow_spec (d := b.d + o) (lo := b.d + o + k) (hi := b.d + o + k + ns.length) h hms (old ++ ns)
  obtain ⟨cur, e, hc, hz⟩ := h.blk bl cb sh z hx
  obtain ⟨hcl, hcon⟩ := h.con bl cb sh z b hx hb
  have hlen := hl.length
  have hroom' : sh + o + k + vs.length ≤ cur.size := by omega
  have hle : ρ.le (ρ.with s.nb (cb, sh + o, z)) := Rho.with_le h.none
  refine ⟨cur, e, hc, hroom', ?_⟩
  have hput : ∀ i, (w.setRow cb (cur.toList.take (sh + o + k) ++ vs ++ cur.toList.drop (sh + o + k + vs.length)).toArray).cell? ⟨cb, i, none⟩ = if sh + o + k ≤ i ∧ i < sh + o + k + vs.length then vs[i - (sh + o + k)]? else w.cell? ⟨cb, i, none⟩ := by
    intro i
    rw [cell_setRow_same w cb i cur _ e (0, 0) hc, get_put cur vs (sh + o + k) i hroom']
    congr 1
    exact (cell_of_row w cb i cur e (0, 0) hc).symm
  have hcase : ∀ x q, ρ.with s.nb (cb, sh + o, z) x = some q → (x = s.nb ∧ q = (cb, sh + o, z)) ∨ (x ≠ s.nb ∧ ρ x = some q) := by
    intro x q hq
    by_cases hk : x = s.nb
    · subst hk
      rw [Rho.with_at] at hq
      exact .inl ⟨rfl, (Option.some.inj hq).symm⟩
    · exact .inr ⟨hk, by rw [Rho.with_ne hk] at hq; exact hq⟩
  have hcoord : ∀ y b' sh' z', y ≠ s.nb → ρ y = some (cb, sh', z') → s.h.get y = some b' → b'.fam = f + 1 ∧ sh' + b.d = sh + b'.d := by
    intro y b' sh' z' hy hy' hb'
    by_cases hyb : y = bl
    · subst hyb
      rw [hx] at hy'
      simp only [Option.some.injEq, Prod.mk.injEq] at hy'
      rw [hb] at hb'
      simp only [Option.some.injEq] at hb'; subst hb'
      exact ⟨hbf, by omega⟩
    · have := h.inj y bl cb sh' sh z' z b' b hyb hy' hx hb' hb
      exact ⟨this.1.trans hbf, this.2.2⟩
  refine ⟨⟨?_, ?_, ?_, ?_, g2, ?_, ?_⟩, ⟨hle, rfl, rfl, rfl, by simp, ?_, ?_, Nat.le_succ _, fun x y hxy => by rcases hcase x y hxy with ⟨rfl, _⟩ | ⟨_, h'⟩; exact .inr (Nat.le_refl _); exact .inl h'⟩⟩
  · intro x q hq
    show x < s.nb + 1
    rcases hcase x q hq with ⟨rfl, _⟩ | ⟨_, hq⟩
    · omega
    · have := h.dom _ _ hq; omega
  · intro x cb' sh' z' hq
    have hany : ∃ y sh'' , ρ y = some (cb', sh'', z') := by
      rcases hcase x _ hq with ⟨_, hq⟩ | ⟨_, hq⟩
      · simp only [Prod.mk.injEq] at hq
        obtain ⟨rfl, _, rfl⟩ := hq
        exact ⟨bl, sh, hx⟩
      · exact ⟨x, sh', hq⟩
    obtain ⟨y, sh'', hy⟩ := hany
    obtain ⟨cs, e', h1, h2⟩ := h.blk y cb' sh'' z' hy
    by_cases hcc : cb' = cb
    · subst hcc
      rw [hc] at h1
      simp only [Option.some.injEq, Obj.cells.injEq] at h1
      obtain ⟨rfl, rfl, _⟩ := h1
      refine ⟨_, e, setRow_heap w cb' cur _ e (0, 0) hc, ?_⟩
      rw [← h2]; simp; omega
    · exact ⟨cs, e', by rw [setRow_other w cb cb' _ hcc]; exact h1, h2⟩
  · intro x cb' sh' z' b' hq hb'
    rcases g1 x b' hb' with ⟨rfl, rfl⟩ | ⟨hne, hb'', hno⟩
    · rw [Rho.with_at] at hq
      simp only [Option.some.injEq, Prod.mk.injEq] at hq
      obtain ⟨rfl, rfl, rfl⟩ := hq
      refine ⟨by simp only [List.length_append]; omega, fun i sv hi => ?_⟩
      rw [hput]
      by_cases hik : i < k
      · rw [List.getElem?_append_left (by omega)] at hi
        rw [if_neg (by omega)]
        obtain ⟨cv, h1, h2⟩ := hcon (o + i) sv (hoc i sv hi)
        exact ⟨cv, by rw [Nat.add_assoc]; exact h1, h2.mono hle⟩
      · rw [List.getElem?_append_right (by omega), hold] at hi
        have hi' : i - k < ns.length := (List.getElem?_eq_some_iff.1 hi).1
        rw [if_pos (by omega)]
        obtain ⟨cv, h1, h2⟩ := hl.get hi
        exact ⟨cv, by rw [show sh + o + i - (sh + o + k) = i - k by omega]; exact h1, h2.mono hle⟩
    · rw [Rho.with_ne hne] at hq
      obtain ⟨h1, h2⟩ := h.con x cb' sh' z' b' hq hb''
      refine ⟨h1, fun i sv hi => ?_⟩
      obtain ⟨cv, h3, h4⟩ := h2 i sv hi
      refine ⟨cv, ?_, h4.mono hle⟩
      by_cases hcc : cb' = cb
      · subst hcc
        obtain ⟨c1, c2⟩ := hcoord x b' sh' z' hne hq hb''
        have hno' := hno c1
        have hi' : i < b'.c.length := (List.getElem?_eq_some_iff.1 hi).1
        rw [hput, if_neg]
        · exact h3
        · omega
      · rw [cell_setRow_other w cb _ _ hcc]; exact h3
  · intro x y cb' sh1 sh2 z1 z2 b1 b2 hne hq1 hq2 h3 h4
    rcases g1 x b1 h3 with ⟨rfl, rfl⟩ | ⟨hnx, h3', _⟩
    · rcases g1 y b2 h4 with ⟨rfl, rfl⟩ | ⟨hny, h4', _⟩
      · exact absurd rfl hne
      · rw [Rho.with_at] at hq1
        rw [Rho.with_ne hny] at hq2
        simp only [Option.some.injEq, Prod.mk.injEq] at hq1
        obtain ⟨rfl, rfl, rfl⟩ := hq1
        obtain ⟨c1, c2⟩ := hcoord y b2 sh2 z2 hny hq2 h4'
        exact ⟨c1.symm, Nat.succ_ne_zero _, by show sh + o + b2.d = sh2 + (b.d + o); omega⟩
    · rcases g1 y b2 h4 with ⟨rfl, rfl⟩ | ⟨hny, h4', _⟩
      · rw [Rho.with_at] at hq2
        rw [Rho.with_ne hnx] at hq1
        simp only [Option.some.injEq, Prod.mk.injEq] at hq2
        obtain ⟨rfl, rfl, rfl⟩ := hq2
        obtain ⟨c1, c2⟩ := hcoord x b1 sh1 z1 hnx hq1 h3'
        exact ⟨c1, by rw [c1]; exact Nat.succ_ne_zero _, by show sh1 + (b.d + o) = sh + o + b1.d; omega⟩
      · rw [Rho.with_ne hnx] at hq1
        rw [Rho.with_ne hny] at hq2
        exact h.inj x y cb' sh1 sh2 z1 z2 b1 b2 hne hq1 hq2 h3' h4'
  · intro x b' hb'
    show b'.fam ≤ s.nf
    rcases g1 x b' hb' with ⟨rfl, rfl⟩ | ⟨hne, hb'', _⟩
    · exact hfn
    · exact h.nfl x b' hb''
  · intro x b' hb'
    show x < s.nb + 1
    rcases g1 x b' hb' with ⟨rfl, rfl⟩ | ⟨hne, hb'', _⟩
    · omega
    · have := h.lt x b' hb''; omega
  · intro c hc' hnot
    exact setRow_other w cb c _ (fun e => hnot bl sh z (by rw [e]; exact hx))
  · intro x cb' sh' z' hq
    rcases hcase x _ hq with ⟨_, hq⟩ | ⟨_, hq⟩
    · simp only [Prod.mk.injEq] at hq
      obtain ⟨rfl, _, rfl⟩ := hq
      exact .inl ⟨bl, sh, z', hx⟩
    · exact .inl ⟨x, sh', z', hq⟩
end Go.Ev
