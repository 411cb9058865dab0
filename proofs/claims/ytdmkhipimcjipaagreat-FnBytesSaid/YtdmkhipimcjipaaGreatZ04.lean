/- Parts of the proof of FnBytes. -/
import Derived.Test.YtdmkhipimcjipaaGreatZ03
import Derived.Laws.BytesString
set_option linter.unusedVariables false
set_option linter.unusedSimpArgs false
section
set_option linter.unusedVariables false
set_option linter.unusedSimpArgs false
set_option maxRecDepth 20000
namespace Go.Ev
open Go
def Rho.with (ρ : Rho) (x : Nat) (y : Nat × Nat × Nat) : Rho := fun k => if k = x then some y else ρ k
theorem Rho.with_le {ρ : Rho} {x : Nat} {y : Nat × Nat × Nat} (h : ρ x = none) : ρ.le (ρ.with x y) := fun k z e => by
  unfold Rho.with
  by_cases hk : k = x
  · subst hk; rw [h] at e; cases e
  · rw [if_neg hk]; exact e
theorem Rho.with_at (ρ : Rho) (x : Nat) (y : Nat × Nat × Nat) : ρ.with x y x = some y := by simp [Rho.with]
theorem Rho.with_ne {ρ : Rho} {x k : Nat} {y : Nat × Nat × Nat} (h : k ≠ x) : ρ.with x y k = ρ k := by simp [Rho.with, h]
theorem Rel.none {ρ : Rho} {s : St} {w : World} (h : Rel ρ s w) : ρ s.nb = Option.none := by
  cases hx : ρ s.nb with
  | none => rfl
  | some y => exact absurd (h.dom _ _ hx) (Nat.lt_irrefl _)
theorem Rel.block_lt {ρ : Rho} {s : St} {w : World} (h : Rel ρ s w) {x cb sh z : Nat} (hx : ρ x = some (cb, sh, z)) : cb < w.heap.size := by
  obtain ⟨cs, e, h1, _⟩ := h.blk x cb sh z hx
  exact (Array.getElem?_eq_some_iff.1 h1).1
theorem get_alloc (s : St) (l : List S) (x : Nat) : (alloc s l).h.get x = if x = s.nb then some ⟨l, 0, 0⟩ else s.h.get x := by
  unfold Ev.alloc; exact T.get_upd (some (⟨l, 0, 0⟩ : Bk)) s.h s.nb x
theorem Rel.alloc' {ρ : Rho} {s : St} {w : World} (h : Rel ρ s w) {l : List S} {cells : Array Value} (hlen : l.length ≤ cells.size) (hl : ∀ (i : Nat) sv, l[i]? = some sv → ∃ cv, cells[i]? = some cv ∧ SR ρ sv cv) (el : TypeId) :
    Rel (ρ.with s.nb (w.heap.size, 0, cells.size)) (alloc s l) (w.alloc (.cells cells el)) ∧ Go s ρ w (alloc s l) (ρ.with s.nb (w.heap.size, 0, cells.size)) (w.alloc (.cells cells el)) := by
  have hn := h.none
  have hle : ρ.le (ρ.with s.nb (w.heap.size, 0, cells.size)) := Rho.with_le hn
  have hcase : ∀ x cb sh z, ρ.with s.nb (w.heap.size, 0, cells.size) x = some (cb, sh, z) → (x = s.nb ∧ cb = w.heap.size ∧ sh = 0 ∧ z = cells.size) ∨ (x ≠ s.nb ∧ ρ x = some (cb, sh, z)) := by
    intro x cb sh z hx
    by_cases hk : x = s.nb
    · subst hk
      rw [Rho.with_at] at hx
      simp only [Option.some.injEq, Prod.mk.injEq] at hx
      exact .inl ⟨rfl, hx.1.symm, hx.2.1.symm, hx.2.2.symm⟩
    · exact .inr ⟨hk, by rw [Rho.with_ne hk] at hx; exact hx⟩
  refine ⟨⟨?_, ?_, ?_, ?_, ?_, ?_, ?_⟩, ⟨hle, rfl, rfl, rfl, by simp, ?_, ?_, Nat.le_succ _, fun x y hxy => by obtain ⟨cb, sh, z⟩ := y; rcases hcase x cb sh z hxy with ⟨rfl, _⟩ | ⟨_, h'⟩; exact .inr (Nat.le_refl _); exact .inl h'⟩⟩
  · intro x ⟨cb, sh, z⟩ hx
    show x < s.nb + 1
    rcases hcase x cb sh z hx with ⟨rfl, _⟩ | ⟨_, hx⟩
    · omega
    · have := h.dom _ _ hx; omega
  · intro x cb sh z hx
    rcases hcase x cb sh z hx with ⟨rfl, rfl, rfl, rfl⟩ | ⟨_, hx⟩
    · exact ⟨cells, el, heap_alloc_new w _, rfl⟩
    · obtain ⟨cs, e, h1, h2⟩ := h.blk x cb sh z hx
      exact ⟨cs, e, by rw [heap_alloc_old w _ _ (h.block_lt hx)]; exact h1, h2⟩
  · intro x cb sh z b hx hb
    rw [get_alloc] at hb
    rcases hcase x cb sh z hx with ⟨rfl, rfl, rfl, rfl⟩ | ⟨hne, hx⟩
    · rw [if_pos rfl] at hb
      simp only [Option.some.injEq] at hb; subst hb
      refine ⟨by show 0 + l.length ≤ _; omega, fun i sv hi => ?_⟩
      obtain ⟨cv, h1, h2⟩ := hl i sv hi
      exact ⟨cv, by rw [Nat.zero_add, World.cell?_alloc_new]; exact h1, h2.mono hle⟩
    · rw [if_neg hne] at hb
      obtain ⟨h1, h2⟩ := h.con x cb sh z b hx hb
      refine ⟨h1, fun i sv hi => ?_⟩
      obtain ⟨cv, h3, h4⟩ := h2 i sv hi
      exact ⟨cv, by rw [World.cell?_alloc_lt w _ _ (h.block_lt hx)]; exact h3, h4.mono hle⟩
  · intro x y cb sh sh' z z' bx b' hne hx hy hbx hby
    rw [get_alloc] at hbx hby
    rcases hcase x cb sh z hx with ⟨rfl, rfl, rfl, rfl⟩ | ⟨hnx, hx⟩
    · rcases hcase y _ sh' z' hy with ⟨rfl, _⟩ | ⟨hny, hy⟩
      · exact absurd rfl hne
      · exact absurd (h.block_lt hy) (Nat.lt_irrefl _)
    · rcases hcase y _ sh' z' hy with ⟨rfl, rfl, _⟩ | ⟨hny, hy⟩
      · exact absurd (h.block_lt hx) (Nat.lt_irrefl _)
      · rw [if_neg hnx] at hbx
        rw [if_neg hny] at hby
        exact h.inj x y cb sh sh' z z' bx b' hne hx hy hbx hby
  · intro x b f hb hf
    rw [get_alloc] at hb
    split at hb
    · simp only [Option.some.injEq] at hb; subst hb; simp at hf
    · exact h.fam x b f hb hf
  · intro x b hb
    rw [get_alloc] at hb
    split at hb
    · simp only [Option.some.injEq] at hb; subst hb; exact Nat.zero_le _
    · exact h.nfl x b hb
  · intro x b hb
    show x < s.nb + 1
    rw [get_alloc] at hb
    split at hb
    · omega
    · have := h.lt x b hb; omega
  · intro c hc _
    exact heap_alloc_old w _ _ hc
  · intro x cb sh z hx
    rcases hcase x cb sh z hx with ⟨rfl, rfl, rfl, rfl⟩ | ⟨_, hx⟩
    · exact .inr (Nat.le_refl _)
    · exact .inl ⟨x, sh, z, hx⟩
theorem Rel.alloc {ρ : Rho} {s : St} {w : World} (h : Rel ρ s w) {l : List S} {cells : Array Value} (hl : LR (SR ρ) l cells.toList) (el : TypeId) :
    Rel (ρ.with s.nb (w.heap.size, 0, cells.size)) (Ev.alloc s l) (w.alloc (.cells cells el)) ∧ Go s ρ w (Ev.alloc s l) (ρ.with s.nb (w.heap.size, 0, cells.size)) (w.alloc (.cells cells el)) :=
  h.alloc' (by rw [hl.length]; simp) (fun i sv hi => by
    obtain ⟨cv, h1, h2⟩ := hl.get hi
    exact ⟨cv, by simpa using h1, h2⟩) el
def NO (s : St) (x o n : Nat) : Prop :=
  ∀ y b bx, y ≠ x → s.h.get x = some bx → s.h.get y = some b → b.fam = bx.fam → bx.fam ≠ 0 → ¬ (b.d < bx.d + o + n ∧ bx.d + o < b.d + b.c.length)
theorem kill_spec (x lo hi : Nat) (h : T Bk) : ∀ (ms : List (Nat × Nat × Nat)),
    (∀ y, (kill x lo hi h ms).1.get y = if (∃ m ∈ ms, m.1 = y ∧ m.1 ≠ x ∧ m.2.1 < hi ∧ lo < m.2.1 + m.2.2) then none else h.get y) ∧
    (∀ m, m ∈ (kill x lo hi h ms).2 ↔ m ∈ ms ∧ (m.1 = x ∨ ¬ (m.2.1 < hi ∧ lo < m.2.1 + m.2.2)))
  | [] => by
    refine ⟨fun y => ?_, fun m => ?_⟩
    · simp [kill]
    · simp [kill]
  | m :: ms => by
    obtain ⟨ih1, ih2⟩ := kill_spec x lo hi h ms
    have red : kill x lo hi h (m :: ms) = (bif Nat.beq m.1 x then ((kill x lo hi h ms).1, m :: (kill x lo hi h ms).2)
      else bif Nat.ble (Nat.succ m.2.1) hi && Nat.ble (Nat.succ lo) (Nat.add m.2.1 m.2.2) then (T.upd none (kill x lo hi h ms).1 m.1, (kill x lo hi h ms).2)
      else ((kill x lo hi h ms).1, m :: (kill x lo hi h ms).2)) := rfl
    rw [red]
    by_cases h1 : m.1 = x
    · have : Nat.beq m.1 x = true := by rw [nbeq]; simpa using h1
      rw [this, cond_true]
      refine ⟨fun y => ?_, fun m' => ?_⟩
      · rw [ih1]
        congr 1
        rw [eq_iff_iff]
        constructor
        · rintro ⟨m', hm, hh⟩; exact ⟨m', List.mem_cons_of_mem _ hm, hh⟩
        · rintro ⟨m', hm, hh⟩
          rcases List.mem_cons.1 hm with rfl | hm
          · exact absurd h1 hh.2.1
          · exact ⟨m', hm, hh⟩
      · simp only [List.mem_cons, ih2]
        constructor
        · rintro (rfl | ⟨a, b⟩)
          · exact ⟨.inl rfl, .inl h1⟩
          · exact ⟨.inr a, b⟩
        · rintro ⟨rfl | a, b⟩
          · exact .inl rfl
          · exact .inr ⟨a, b⟩
    · have : Nat.beq m.1 x = false := by rw [nbeq]; simpa using h1
      rw [this, cond_false]
      by_cases h2 : m.2.1 < hi ∧ lo < m.2.1 + m.2.2
      · have : (Nat.ble (Nat.succ m.2.1) hi && Nat.ble (Nat.succ lo) (Nat.add m.2.1 m.2.2)) = true := by
          rw [nble, nble]; simpa [Nat.succ_le_iff] using h2
        rw [this, cond_true]
        refine ⟨fun y => ?_, fun m' => ?_⟩
        · show (T.upd none (kill x lo hi h ms).1 m.1).get y = _
          rw [T.get_upd, ih1]
          by_cases hy : y = m.1
          · subst hy
            rw [if_pos rfl, if_pos ⟨m, List.mem_cons_self .., rfl, h1, h2⟩]
          · rw [if_neg hy]
            congr 1
            rw [eq_iff_iff]
            constructor
            · rintro ⟨m', hm, hh⟩; exact ⟨m', List.mem_cons_of_mem _ hm, hh⟩
            · rintro ⟨m', hm, hh⟩
              rcases List.mem_cons.1 hm with rfl | hm
              · exact absurd hh.1.symm hy
              · exact ⟨m', hm, hh⟩
        · show m' ∈ (kill x lo hi h ms).2 ↔ _
          rw [ih2]
          constructor
          · rintro ⟨a, b⟩; exact ⟨List.mem_cons_of_mem _ a, b⟩
          · rintro ⟨a, b⟩
            rcases List.mem_cons.1 a with rfl | a
            · rcases b with b | b
              · exact absurd b h1
              · exact absurd h2 b
            · exact ⟨a, b⟩
      · have : (Nat.ble (Nat.succ m.2.1) hi && Nat.ble (Nat.succ lo) (Nat.add m.2.1 m.2.2)) = false := by
          rw [nble, nble]; rw [Bool.eq_false_iff]; intro hh; apply h2; simpa [Nat.succ_le_iff] using hh
        rw [this, cond_false]
        refine ⟨fun y => ?_, fun m' => ?_⟩
        · rw [ih1]
          congr 1
          rw [eq_iff_iff]
          constructor
          · rintro ⟨m', hm, hh⟩; exact ⟨m', List.mem_cons_of_mem _ hm, hh⟩
          · rintro ⟨m', hm, hh⟩
            rcases List.mem_cons.1 hm with rfl | hm
            · exact absurd hh.2.2 h2
            · exact ⟨m', hm, hh⟩
        · simp only [List.mem_cons, ih2]
          constructor
          · rintro (rfl | ⟨a, b⟩)
            · exact ⟨.inl rfl, .inr h2⟩
            · exact ⟨.inr a, b⟩
          · rintro ⟨rfl | a, b⟩
            · exact .inl rfl
            · exact .inr ⟨a, b⟩
theorem prep_spec {ρ : Rho} {s s' : St} {w : World} (h : Rel ρ s w) {x o n : Nat} (hp : prep s x o n = some s') :
    Rel ρ s' w ∧ NO s' x o n ∧ s'.nb = s.nb ∧ s'.nf = s.nf ∧ (∃ b, s'.h.get x = some b ∧ s.h.get x = some b ∧ o + n ≤ b.c.length) ∧ (∀ y b, s'.h.get y = some b → s.h.get y = some b) := by
  unfold prep at hp
  cases hx : s.h.get x with
  | none => rw [hx] at hp; simp at hp
  | some b =>
    rw [hx] at hp
    simp only at hp
    obtain ⟨hle, hp⟩ := cond_some hp
    have hle := Nat.le_of_ble_eq_true hle
    simp only [llen_eq, Nat.add_eq] at hle
    cases hf : b.fam with
    | zero =>
      rw [hf] at hp
      simp only [Option.some.injEq] at hp; subst hp
      refine ⟨h, ?_, rfl, rfl, ⟨b, hx, rfl, hle⟩, fun _ _ h => h⟩
      intro y b' bx _ hbx _ _ hne
      rw [hx] at hbx
      simp only [Option.some.injEq] at hbx; subst hbx
      exact absurd hf hne
    | succ f =>
      rw [hf] at hp
      simp only at hp
      cases hm : s.fm.get f with
      | none => rw [hm] at hp; simp at hp
      | some ms =>
        rw [hm] at hp
        simp only [Option.some.injEq] at hp
        obtain ⟨k1, k2⟩ := kill_spec x (b.d + o) (b.d + o + n) s.h ms
        subst hp
        have hget : ∀ y bb, (kill x (b.d + o) (b.d + o + n) s.h ms).1.get y = some bb → s.h.get y = some bb := by
          intro y bb hy
          rw [k1] at hy
          split at hy
          · simp at hy
          · exact hy
        have hx' : (kill x (b.d + o) (b.d + o + n) s.h ms).1.get x = some b := by
          rw [k1, if_neg]
          · exact hx
          · rintro ⟨m, _, e, ne, _⟩; exact ne e
        refine ⟨?_, ?_, rfl, rfl, ⟨b, hx', rfl, hle⟩, hget⟩
        · refine h.drop rfl rfl hget fun y bb g hy hg => ?_
          show ∃ ms', (T.upd (some (kill x (b.d + o) (b.d + o + n) s.h ms).2) s.fm f).get g = some ms' ∧ _
          rw [T.get_upd]
          obtain ⟨ms', e1, e2⟩ := h.fam y bb g (hget y bb hy) hg
          by_cases hgf : g = f
          · subst hgf
            rw [if_pos rfl]
            rw [hm] at e1
            simp only [Option.some.injEq] at e1; subst e1
            refine ⟨_, rfl, (k2 _).2 ⟨e2, ?_⟩⟩
            by_cases hyx : y = x
            · exact .inl hyx
            · refine .inr fun hov => ?_
              have hy' : (kill x (b.d + o) (b.d + o + n) s.h ms).1.get y = some bb := hy
              rw [k1, if_pos ⟨_, e2, rfl, hyx, hov⟩] at hy'
              simp at hy'
          · rw [if_neg hgf]; exact ⟨ms', e1, e2⟩
        · intro y bb bx hyx hbx hby hfam hne hov
          change (kill x (b.d + o) (b.d + o + n) s.h ms).1.get x = some bx at hbx
          change (kill x (b.d + o) (b.d + o + n) s.h ms).1.get y = some bb at hby
          rw [hx'] at hbx
          simp only [Option.some.injEq] at hbx; subst hbx
          obtain ⟨ms', e1, e2⟩ := h.fam y bb f (hget y bb hby) (by rw [hfam, hf])
          rw [hm] at e1
          simp only [Option.some.injEq] at e1; subst e1
          rw [k1, if_pos ⟨_, e2, rfl, hyx, hov⟩] at hby
          simp at hby
theorem get_put (cur : Array Value) (vs : List Value) (k i : Nat) (hl : k + vs.length ≤ cur.size) :
    (cur.toList.take k ++ vs ++ cur.toList.drop (k + vs.length)).toArray[i]? = if k ≤ i ∧ i < k + vs.length then vs[i - k]? else cur[i]? := by
  rw [List.getElem?_toArray, List.append_assoc]
  have hk : (cur.toList.take k).length = k := by simp; omega
  by_cases h1 : i < k
  · rw [List.getElem?_append_left (by omega), if_neg (by omega), List.getElem?_take, if_pos h1]; simp
  · rw [List.getElem?_append_right (by omega), hk]
    by_cases h2 : i < k + vs.length
    · rw [List.getElem?_append_left (by omega), if_pos ⟨by omega, h2⟩]
    · rw [List.getElem?_append_right (by omega), if_neg (by omega), List.getElem?_drop]
      rw [show k + vs.length + (i - k - vs.length) = i by omega]; simp
theorem setc_spec {ρ : Rho} {s s' : St} {w : World} (h : Rel ρ s w) {x o : Nat} {l : List S} (hs : setc s x o l = some s') {cb sh z : Nat} (hx : ρ x = some (cb, sh, z)) (hno : NO s x o l.length)
    (hfit : ∀ b, s.h.get x = some b → o + l.length ≤ b.c.length) {vs : List Value} (hl : LR (SR ρ) l vs) :
    ∃ cur e, w.heap[cb]? = some (.cells cur e (0, 0)) ∧ sh + o + vs.length ≤ cur.size ∧
      Rel ρ s' (w.setRow cb (cur.toList.take (sh + o) ++ vs ++ cur.toList.drop (sh + o + vs.length)).toArray) ∧ Go s ρ w s' ρ (w.setRow cb (cur.toList.take (sh + o) ++ vs ++ cur.toList.drop (sh + o + vs.length)).toArray) := by
  unfold setc at hs
  cases hb : s.h.get x with
  | none => rw [hb] at hs; simp at hs
  | some b =>
    rw [hb] at hs
    simp only [Option.some.injEq] at hs
    obtain ⟨cur, e, hc, hz⟩ := h.blk x cb sh z hx
    obtain ⟨hcl, hcon⟩ := h.con x cb sh z b hx hb
    have hfit' := hfit b hb
    have hlen := hl.length
    have hroom : sh + o + vs.length ≤ cur.size := by omega
    refine ⟨cur, e, hc, hroom, ?_⟩
    have hput : ∀ i, (w.setRow cb (cur.toList.take (sh + o) ++ vs ++ cur.toList.drop (sh + o + vs.length)).toArray).cell? ⟨cb, i, none⟩ = if sh + o ≤ i ∧ i < sh + o + vs.length then vs[i - (sh + o)]? else w.cell? ⟨cb, i, none⟩ := by
      intro i
      rw [cell_setRow_same w cb i cur _ e (0, 0) hc, get_put cur vs (sh + o) i hroom]
      congr 1
      exact (cell_of_row w cb i cur e (0, 0) hc).symm
    have hget : ∀ y, s'.h.get y = if y = x then some ⟨lput b.c l o, b.fam, b.d⟩ else s.h.get y := by
      intro y; rw [← hs]; exact T.get_upd (some (⟨lput b.c l o, b.fam, b.d⟩ : Bk)) s.h x y
    have hnb : s'.nb = s.nb := by rw [← hs]
    have hnf : s'.nf = s.nf := by rw [← hs]
    have hfm : s'.fm = s.fm := by rw [← hs]
    have hputl : (lput b.c l o).length = b.c.length := by rw [lput_eq]; simp; omega
    have hputg : ∀ i, (lput b.c l o)[i]? = if o ≤ i ∧ i < o + l.length then l[i - o]? else b.c[i]? := by
      intro i
      rw [lput_eq]
      have hk : (b.c.take o).length = o := by simp; omega
      by_cases h1 : i < o
      · rw [List.getElem?_append_left (by omega), if_neg (by omega), List.getElem?_take, if_pos h1]
      · rw [List.getElem?_append_right (by omega), hk]
        by_cases h2 : i < o + l.length
        · rw [List.getElem?_append_left (by omega), if_pos ⟨by omega, h2⟩]
        · rw [List.getElem?_append_right (by omega), if_neg (by omega), List.getElem?_drop]
          rw [show o + l.length + (i - o - l.length) = i by omega]
    refine ⟨⟨?_, ?_, ?_, ?_, ?_, ?_, ?_⟩, ⟨Rho.le_refl _, rfl, rfl, rfl, by simp, ?_, ?_, by rw [hnb]; exact Nat.le_refl _, fun _ _ h => .inl h⟩⟩
    · intro y q hy; rw [hnb]; exact h.dom y q hy
    · intro y cb' sh' z' hy
      obtain ⟨cs, e', h1, h2⟩ := h.blk y cb' sh' z' hy
      by_cases hcc : cb' = cb
      · subst hcc
        rw [hc] at h1
        simp only [Option.some.injEq, Obj.cells.injEq] at h1
        obtain ⟨rfl, rfl, _⟩ := h1
        refine ⟨_, e, setRow_heap w cb' cur _ e (0, 0) hc, ?_⟩
        rw [← h2]; simp; omega
      · exact ⟨cs, e', by rw [setRow_other w cb cb' _ hcc]; exact h1, h2⟩
    · intro y cb' sh' z' by' hy hby
      rw [hget] at hby
      by_cases hyx : y = x
      · subst hyx
        rw [if_pos rfl] at hby
        simp only [Option.some.injEq] at hby; subst hby
        rw [hx] at hy
        simp only [Option.some.injEq, Prod.mk.injEq] at hy
        obtain ⟨rfl, rfl, rfl⟩ := hy
        refine ⟨by rw [hputl]; exact hcl, fun i sv hi => ?_⟩
        rw [hputg] at hi
        rw [hput]
        by_cases hin : o ≤ i ∧ i < o + l.length
        · rw [if_pos hin] at hi
          rw [if_pos (by omega)]
          obtain ⟨cv, h1, h2⟩ := hl.get hi
          exact ⟨cv, by rw [show sh + i - (sh + o) = i - o by omega]; exact h1, h2⟩
        · rw [if_neg hin] at hi
          rw [if_neg (by omega)]
          exact hcon i sv hi
      · rw [if_neg hyx] at hby
        obtain ⟨h1, h2⟩ := h.con y cb' sh' z' by' hy hby
        refine ⟨h1, fun i sv hi => ?_⟩
        obtain ⟨cv, h3, h4⟩ := h2 i sv hi
        refine ⟨cv, ?_, h4⟩
        by_cases hcc : cb' = cb
        · subst hcc
          obtain ⟨i1, i2, i3⟩ := h.inj y x cb' sh' sh z' z by' b hyx hy hx hby hb
          have hno' := hno y by' b hyx hb hby i1 (by rw [← i1]; exact i2)
          have hi' : i < by'.c.length := (List.getElem?_eq_some_iff.1 hi).1
          rw [hput, if_neg]
          · exact h3
          · omega
        · rw [cell_setRow_other w cb _ _ hcc]; exact h3
    · intro y y' cb' sh1 sh2 z1 z2 b1 b2 hne h1 h2 h3 h4
      rw [hget] at h3 h4
      have e1 : ∃ b1', s.h.get y = some b1' ∧ b1'.fam = b1.fam ∧ b1'.d = b1.d := by
        split at h3
        · rename_i hh; subst hh; simp only [Option.some.injEq] at h3; subst h3; exact ⟨b, hb, rfl, rfl⟩
        · exact ⟨b1, h3, rfl, rfl⟩
      have e2 : ∃ b2', s.h.get y' = some b2' ∧ b2'.fam = b2.fam ∧ b2'.d = b2.d := by
        split at h4
        · rename_i hh; subst hh; simp only [Option.some.injEq] at h4; subst h4; exact ⟨b, hb, rfl, rfl⟩
        · exact ⟨b2, h4, rfl, rfl⟩
      obtain ⟨b1', g1, g2, g3⟩ := e1
      obtain ⟨b2', g4, g5, g6⟩ := e2
      have := h.inj y y' cb' sh1 sh2 z1 z2 b1' b2' hne h1 h2 g1 g4
      rw [← g2, ← g3, ← g5, ← g6]; exact this
    · intro y bb f hy hf
      rw [hget] at hy
      rw [hfm]
      split at hy
      · rename_i hh; subst hh; simp only [Option.some.injEq] at hy; subst hy
        obtain ⟨ms, g1, g2⟩ := h.fam y b f hb hf
        exact ⟨ms, g1, by simp only [hputl]; exact g2⟩
      · exact h.fam y bb f hy hf
    · intro y bb hy
      rw [hget] at hy
      rw [hnf]
      split at hy
      · rename_i hh; subst hh; simp only [Option.some.injEq] at hy; subst hy; exact h.nfl y b hb
      · exact h.nfl y bb hy
    · intro y bb hy
      rw [hget] at hy
      rw [hnb]
      split at hy
      · rename_i hh; subst hh; exact h.lt y b hb
      · exact h.lt y bb hy
    · intro c hc' hnot
      exact setRow_other w cb c _ (fun e => hnot x sh z (by rw [e]; exact hx))
    · intro y cb' sh' z' hy; exact .inl ⟨y, sh', z', hy⟩
end Go.Ev
end
section
set_option linter.unusedVariables false
set_option linter.unusedSimpArgs false
set_option maxRecDepth 20000
namespace Go.Ev
open Go
theorem run_loadVar_agg {P : Program} {t : TypeId} {u : TypeDesc} {i : TypeInfo} (hu : P.underlying t = some u) (hi : P.info? t = some i) (hag : isAggD u = true) (a : Addr) {cs : List Value} (hl : cs.length = i.size)
    {w : World} (hc : ∀ j v, cs[j]? = some v → w.cell? (a.add j) = some v) : (loadVar t a).run P w = .ok (.agg cs.toArray) w := by
  have := run_loadCells_list (P := P) w a cs hc
  rw [hl] at this
  unfold loadVar
  simp only [Sem.run_bind, run_isAgg hu, Result.andThen_ok, hag, if_true, run_size hi, this]
  rfl
theorem run_loadVar_cell {P : Program} {t : TypeId} {u : TypeDesc} (hu : P.underlying t = some u) (hag : isAggD u = false) {a : Addr} {w : World} {v : Value} (hc : w.cell? a = some v) :
    (loadVar t a).run P w = .ok v w := by
  unfold loadVar
  simp only [Sem.run_bind, run_isAgg hu, Result.andThen_ok, hag, Bool.false_eq_true, if_false, run_load, hc]
theorem ld_sound {P : Program} {ty : TypeId → Option TyI} (hty : TyOk P ty) {t : TypeId} {i : TyI} (hi : ty t = some i) {ρ : Rho} {s : St} {w : World} (h : Rel ρ s w) {q : S} {cq : Value} (hq : SR ρ q cq) {v : V}
    (hv : ldv s (if isAggD i.u then some i.sz else none) q = some v) : ∃ cv a, cq = .pointer (some a) ∧ (loadVar t a).run P w = .ok cv w ∧ VR ρ v cv := by
  obtain ⟨inf, z, hi1, hi2, _, _, _⟩ := hty.info hi
  have hu := hty.under hi
  unfold ldv at hv
  split at hv
  · rename_i x o
    obtain ⟨cb, sh, zz, r1, r2⟩ := hq
    cases hag : isAggD i.u with
    | true =>
      rw [hag] at hv
      simp only [if_true] at hv
      split at hv
      · rename_i l hl
        simp only [Option.some.injEq] at hv; subst hv
        obtain ⟨cs, h1, h2, h3⟩ := h.cells_there hl r1
        exact ⟨.agg cs.toArray, _, r2, run_loadVar_agg hu hi1 hag _ (by rw [h1, hi2]) h3, _, rfl, by simpa using h2⟩
      · simp at hv
    | false =>
      rw [hag] at hv
      simp only [Bool.false_eq_true, if_false] at hv
      split at hv
      · rename_i b hb
        split at hv
        · rename_i sv hs
          simp only [Option.some.injEq] at hv; subst hv
          rw [lget_eq] at hs
          obtain ⟨cv, h1, h2⟩ := (h.con x cb sh zz b r1 hb).2 o sv hs
          exact ⟨cv, _, r2, run_loadVar_cell hu hag h1, h2⟩
        · simp at hv
      · simp at hv
  · simp at hv
theorem bytesIn_sound {ρ : Rho} : ∀ {l : List S} {cs : List Value} {b : List Nat}, bytesIn l = some b → LR (SR ρ) l cs → cs = (b.map fun (n : Nat) => (n : Int)).map (Value.int .u8)
  | [], [], b, h, _ => by
    have : some [] = some b := h
    simp only [Option.some.injEq] at this; subst this; rfl
  | [], _ :: _, _, _, h => h.elim
  | _ :: _, [], _, _, h => h.elim
  | x :: l, c :: cs, b, h, hl => by
    have h' : consB x (bytesIn l) = some b := h
    unfold consB at h'
    split at h'
    · rename_i n m hm
      obtain ⟨_, h'⟩ := cond_some h'
      simp only [Option.some.injEq] at h'; subst h'
      have h1 : c = .int .u8 (Int.ofNat n) := hl.1
      rw [h1, bytesIn_sound hm hl.2]
      rfl
    · simp at h'
theorem bytesIn_le : ∀ {l : List S} {b : List Nat}, bytesIn l = some b → b.map (fun n => (UInt8.ofNat n).toNat) = b
  | [], b, h => by
    have : some [] = some b := h
    simp only [Option.some.injEq] at this; subst this; rfl
  | x :: l, b, h => by
    have h' : consB x (bytesIn l) = some b := h
    unfold consB at h'
    split at h'
    · rename_i n m hm
      obtain ⟨hn, h'⟩ := cond_some h'
      have hn := Nat.le_of_ble_eq_true hn
      simp only [Option.some.injEq] at h'; subst h'
      rw [List.map_cons, bytesIn_le hm]
      congr 1
      simp only [UInt8.toNat_ofNat']
      omega
    · simp at h'
theorem foldl_push : ∀ (l : List Nat) (b : ByteArray), ((l.map fun (n : Nat) => (n : Int)).foldl (fun r n => r.push (UInt8.ofNat n.toNat)) b).data.toList = b.data.toList ++ l.map UInt8.ofNat
  | [], b => by simp
  | x :: l, b => by
    simp only [List.map_cons, List.foldl_cons]
    rw [foldl_push l]
    simp [ByteArray.push]
theorem rv_sound {P : Program} {ty : TypeId → Option TyI} {ibs : FuncId → Bool} (hty : TyOk P ty) {op : Op} {x : R} (h : cMO ty ibs op = some (.r x)) {ρ : Rho} {e : E} {a : Act} (he : ER ρ e a) {s : St} {w : World} (hr : Rel ρ s w)
    {v : V} (hv : rv e s x = some v) (dst : Option Tmp) (type : TypeId) (pos : String) (after : Array Edge) (guard : Option (Nat × Bool)) :
    ∃ cv, (execOp a.eval ⟨dst, op, type, pos, after, guard⟩).run P w = .ok (.value cv) w ∧ VR ρ v cv := by
  cases op
  case load t y =>
    simp only [cMO] at h
    split at h <;> simp only [Option.some.injEq, reduceCtorEq, MO.r.injEq] at h
    rename_i i y' hi hy
    subst h
    have hu' : Ev.os e y' ≠ .un := by
      intro hh; simp only [rv, hh, ldv, reduceCtorEq] at hv
    have hq := he.os hy rfl hu'
    obtain ⟨cv, ad, h1, h2, h3⟩ := ld_sound hty hi hr hq (v := v) (by
      simp only [rv] at hv
      exact hv)
    refine ⟨cv, execV ?_, h3⟩
    unfold Instr.loadAt
    simp only [h1, Instr.sureAddr, Sem.run_bind, Sem.run_pure, Result.andThen_ok, h2]
  case convert sT d y =>
    simp only [cMO] at h
    split at h
    · rename_i i j y' h1 h2 h3
      split at h
      · simp at h
      · simp at h
      · rename_i el hi hj
        split at h
        · rename_i k hk
          split at h <;> simp only [Option.some.injEq, reduceCtorEq, MO.r.injEq] at h
          rename_i hku
          subst h
          have hus : P.underlying sT = some (.slice el) := by rw [hty.under h1]; exact congrArg _ hi
          have hud : P.underlying d = some .string := by rw [hty.under h2]; exact congrArg _ hj
          have hue : P.underlying el = some (.int .u8) := by rw [hty.under hk]; exact congrArg _ hku
          simp only [rv] at hv
          split at hv
          · rename_i h4
            simp only [Option.some.injEq] at hv; subst hv
            refine ⟨.string .empty, execV ?_, _, rfl, rfl⟩
            rw [show a.eval y = .slice none 0 0 from he.at h3 h4]
            unfold convert
            simp only [Sem.run_bind, run_under hus, run_under hud, run_under hue, Result.andThen_ok]
            rfl
          · rename_i bl o n sz full h4
            replace hv := cond_some hv
            obtain ⟨h5, hv⟩ := hv
            simp only [nbeq, beq_iff_eq] at h5
            subst h5
            split at hv
            · rename_i l hl
              split at hv
              · rename_i b hb
                simp only [Option.some.injEq] at hv; subst hv
                obtain ⟨cb, sh, zz, ad, cap, r1, r2, r3, r4, r5, r6, r7⟩ := he.at h3 h4
                obtain ⟨cs, g1, g2, g3⟩ := hr.cells_there hl r1
                have g4 := bytesIn_sound hb g2
                have g5 : (loadCells ad n).run P w = .ok ((b.map fun (n : Nat) => (n : Int)).map (Value.int .u8)).toArray w := by
                  by_cases hn : n = 0
                  · subst hn
                    have : cs = [] := List.eq_nil_of_length_eq_zero g1
                    rw [← g4, this]; rfl
                  · rw [r5 (by omega), ← g1, ← g4]
                    exact run_loadCells_list w _ cs g3
                refine ⟨.string ((b.map fun (n : Nat) => (n : Int)).foldl (fun r n => r.push (UInt8.ofNat n.toNat)) ByteArray.empty), execV ?_, _, rfl, ?_⟩
                · rw [r2]
                  unfold convert
                  simp only [Sem.run_bind, run_under hus, run_under hud, run_under hue, Result.andThen_ok]
                  exact run_bytesToString w ad n cap _ g5
                · rw [foldl_push]
                  rw [show ByteArray.empty.data.toList = [] from rfl, List.nil_append, List.map_map]
                  exact bytesIn_le hb
              · simp at hv
            · simp at hv
          · simp at hv
        · simp at h
      · simp at h
    · simp at h
  all_goals
    first
      | (simp only [cMO, reduceCtorEq] at h; done)
      | (simp only [cMO, Option.map_eq_some_iff, reduceCtorEq, and_false, exists_false] at h; done)
      | (simp only [cMO] at h; (repeat' split at h) <;> simp at h; done)
      | skip
  case makeFunc fn first caps =>
    cases fn <;> simp only [cMO, reduceCtorEq] at h
    split at h <;> simp at h
  case call c =>
    simp only [cMO] at h
    split at h
    · split at h
      · exact absurd h (by
          intro hh
          unfold cBuiltin at hh
          (repeat' split at hh) <;> simp at hh)
      · (repeat' split at h) <;> simp at h
      · simp at h
      · simp at h
    · simp at h
theorem lrep_length (z : List S) : ∀ n, (lrep z n).length = n * z.length
  | 0 => by show ([] : List S).length = _; simp
  | n + 1 => by
    show (lapp z (lrep z n)).length = _
    rw [lapp_eq, List.length_append, lrep_length z n, Nat.succ_mul]; omega
theorem lrep_get (z : List S) : ∀ n i, i < n * z.length → (lrep z n)[i]? = z[i % z.length]?
  | 0, i, h => by simp at h
  | n + 1, i, h => by
    show (lapp z (lrep z n))[i]? = _
    rw [lapp_eq]
    by_cases hi : i < z.length
    · rw [List.getElem?_append_left hi, Nat.mod_eq_of_lt hi]
    · have h' : i < n * z.length + z.length := by rw [← Nat.succ_mul]; exact h
      rw [List.getElem?_append_right (by omega), lrep_get z n _ (by omega)]
      rw [← Nat.mod_eq_sub_mod (by omega)]
theorem lrep_lr {ρ : Rho} {z : List S} {zc : Array Value} (h : LR (SR ρ) z zc.toList) (n : Nat) : LR (SR ρ) (lrep z n) ((Array.range (n * zc.size)).map (zc[· % zc.size]!)).toList := by
  have hl : z.length = zc.size := by rw [h.length]; simp
  refine LR.of_get (by rw [lrep_length, hl]; simp) fun i a b ha hb => ?_
  have hi : i < n * z.length := by have := (List.getElem?_eq_some_iff.1 ha).1; rwa [lrep_length] at this
  rw [lrep_get z n i hi] at ha
  obtain ⟨c, h1, h2⟩ := h.get ha
  have hpos : 0 < z.length := by
    rcases Nat.eq_zero_or_pos z.length with h0 | h0
    · rw [h0] at hi; omega
    · exact h0
  have hlt : i % z.length < z.length := Nat.mod_lt _ hpos
  simp only [Array.toList_map, Array.toList_range, List.getElem?_map, List.getElem?_range (show i < n * zc.size by rw [← hl]; exact hi), Option.map_some, Option.some.injEq] at hb
  rw [← hb]
  have : zc[i % zc.size]! = c := by
    rw [← hl]
    have h3 : zc[i % z.length]? = some c := by simpa using h1
    rw [getElem!_def, h3]
  rw [this]; exact h2
theorem av_sound {P : Program} {ty : TypeId → Option TyI} {ibs : FuncId → Bool} (hty : TyOk P ty) {op : Op} {x : A} (h : cMO ty ibs op = some (.a x)) {ρ : Rho} {e : E} {a : Act} (he : ER ρ e a)
    {l : List S} {f : Nat → V} (hv : av e x = some (l, f)) (dst : Option Tmp) (type : TypeId) (pos : String) (after : Array Edge) (guard : Option (Nat × Bool)) (w : World) :
    ∃ cv cells el, (execOp a.eval ⟨dst, op, type, pos, after, guard⟩).run P w = .ok (.value cv) (w.alloc (.cells cells el)) ∧ LR (SR ρ) l cells.toList ∧
      ∀ (ρ' : Rho) (n : Nat), ρ' n = some (w.heap.size, 0, cells.size) → VR ρ' (f n) cv := by
  cases op
  case alloc t =>
    simp only [cMO, Option.map_eq_some_iff] at h
    obtain ⟨i, hi, h⟩ := h
    simp only [MO.a.injEq] at h; subst h
    obtain ⟨inf, z, hi1, hi2, hi3, hi4, hi5⟩ := hty.info hi
    simp only [av, Option.some.injEq, Prod.mk.injEq] at hv
    obtain ⟨rfl, rfl⟩ := hv
    refine ⟨.pointer (some ⟨w.heap.size, 0, none⟩), z.cells, t, execV ?_, valL_lr ρ hi5, fun ρ' n hn => ⟨_, _, _, hn, rfl⟩⟩
    unfold Instr.alloc
    simp only [Sem.run_bind, run_zero hi1 hi4, Result.andThen_ok, newVar, newRow, run_newObj, Sem.run_pure]
    rfl
  case box t y =>
    simp only [cMO, Option.map_eq_some_iff] at h
    obtain ⟨y', hy, h⟩ := h
    simp only [MO.a.injEq] at h; subst h
    simp only [av] at hv
    split at hv
    · rename_i l' hl
      simp only [Option.some.injEq, Prod.mk.injEq] at hv
      obtain ⟨rfl, rfl⟩ := hv
      refine ⟨.pointer (some ⟨w.heap.size, 0, none⟩), (a.eval y).cells, t, execV ?_, VR.cells (he.ov hy) hl, fun ρ' n hn => ⟨_, _, _, hn, rfl⟩⟩
      unfold Instr.box
      simp only [Sem.run_bind, Result.andThen_ok, newVar, newRow, run_newObj, Sem.run_pure]
      rfl
    · simp at hv
  case buildSlice t n ps =>
    simp only [cMO] at h
    split at h
    · rename_i j hj
      split at h
      · simp at h
      · rename_i hc
        simp only [not_or, Nat.not_lt, Decidable.not_not] at hc
        obtain ⟨hz, hbig, hzl⟩ := hc
        simp only [Option.map_eq_some_iff] at h
        obtain ⟨qs, hq, h⟩ := h
        simp only [MO.a.injEq] at h; subst h
        obtain ⟨el, hu, hj'⟩ := hty.elem hj
        obtain ⟨inf, z, hi1, hi2, hi3, hi4, hi5⟩ := hty.info hj'
        simp only [av] at hv
        split at hv
        · rename_i l' hl
          simp only [Option.some.injEq, Prod.mk.injEq] at hv
          obtain ⟨rfl, rfl⟩ := hv
          have hzc := valL_lr ρ hi5
          have hzs : z.cells.size = j.sz := by rw [← hzl, hzc.length]; simp
          obtain ⟨out, h1, h2⟩ := putAll_sound he hq hl (lrep_lr hzc n)
          have hps : (ps.map fun (i, x) => (i, a.eval x)).toList = ps.toList.map fun p => (p.1, a.eval p.2) := by simp
          have hlen : out.size = n * j.sz := by
            have e1 := h2.length
            have e2 : ∀ {qs : List (Nat × Nat × O)} {z l : List S}, putAll z e qs = some l → l.length = z.length := by
              intro qs
              induction qs with
              | nil => intro z l h; have : some z = some l := h; simp only [Option.some.injEq] at this; rw [this]
              | cons p qs ih =>
                intro z l h
                have h' : (match cellsOf (ov e p.2.2) with
                  | none => none
                  | some l' => bif Nat.beq (llen l') p.2.1 && Nat.ble (Nat.add p.1 p.2.1) (llen z) then putAll (lput z l' p.1) e qs else none) = some l := h
                cases hc : cellsOf (ov e p.2.2) with
                | none => simp [hc] at h'
                | some l' =>
                  simp only [hc] at h'
                  obtain ⟨ht, h'⟩ := cond_some h'
                  obtain ⟨t1, t2⟩ := (Bool.and_eq_true _ _).mp ht
                  rw [nbeq, beq_iff_eq, llen_eq] at t1
                  have t2 := Nat.le_of_ble_eq_true t2
                  rw [llen_eq] at t2
                  rw [ih h', lput_eq]
                  simp only [List.length_append, List.length_take, List.length_drop]
                  have t3 : p.1 + p.2.1 ≤ z.length := t2
                  omega
            rw [e2 hl, lrep_length, hzl] at e1
            simpa using e1.symm
          refine ⟨.slice (some ⟨w.heap.size, 0, none⟩) n n, out, el, execV ?_, h2, fun ρ' m hm => ⟨_, _, _, _, n, hm, rfl, Nat.le_refl _, fun _ => rfl, fun _ => rfl, by rw [hlen]; omega, by omega⟩⟩
          unfold Instr.buildSlice
          simp only [Sem.run_bind, run_under hu, Result.andThen_ok, run_size hi1, hi2]
          rw [if_neg (by omega)]
          rw [hps]
          by_cases hn : n * j.sz = 0
          · have hn0 : n = 0 := by
              rcases Nat.mul_eq_zero.1 hn with h' | h'
              · exact h'
              · exact absurd h' hz
            subst hn0
            simp only [Nat.zero_mul, if_true, Sem.run_bind, Sem.run_pure, Result.andThen_ok]
            have e0 : ((Array.range 0).map fun (x : Nat) => (#[] : Array Value)[x % (#[] : Array Value).size]!) = ((Array.range (0 * z.cells.size)).map (z.cells[· % z.cells.size]!)) := by simp
            rw [e0, h1]
            rfl
          · simp only [hn, if_false, Sem.run_bind, run_zero hi1 hi4, Sem.run_pure, Result.andThen_ok]
            have h1' := h1
            rw [hzs] at h1'
            rw [hzs, h1']
            rfl
        · simp at hv
    · simp at h
  case makeSlice t n c =>
    simp only [cMO] at h
    split at h
    · rename_i j n' c' hj hn hc
      split at h
      · simp at h
      · rename_i hcc
        simp only [not_or, Decidable.not_not] at hcc
        obtain ⟨hz, hzl⟩ := hcc
        simp only [Option.some.injEq, MO.a.injEq] at h; subst h
        obtain ⟨el, hu, hj'⟩ := hty.elem hj
        obtain ⟨inf, z, hi1, hi2, hi3, hi4, hi5⟩ := hty.info hj'
        simp only [av] at hv
        split at hv
        · rename_i nn cc h1 h2
          obtain ⟨hle, hv⟩ := cond_some hv
          obtain ⟨hle, hbig, h63⟩ := ble3 hle
          rw [m63_eq] at h63
          have hbig : j.by_ * cc ≤ 140737488355328 := hbig
          simp only [Option.some.injEq, Prod.mk.injEq] at hv
          obtain ⟨rfl, rfl⟩ := hv
          have hzc := valL_lr ρ hi5
          have hzs : z.cells.size = j.sz := by rw [← hzl, hzc.length]; simp
          have w1 : IntKind.i64.wrap (nn : Int) = nn := IntWalk.i64_in _ ⟨by omega, by omega⟩
          have w2 : IntKind.i64.wrap (cc : Int) = cc := IntWalk.i64_in _ ⟨by omega, by omega⟩
          have hl0 := lrep_lr hzc cc
          rw [hzs] at hl0
          refine ⟨.slice (some ⟨w.heap.size, 0, none⟩) nn cc, (Array.range (cc * j.sz)).map (z.cells[· % j.sz]!), el, execV ?_, hl0, fun ρ' m hm => ⟨_, _, _, _, cc, hm, rfl, hle, ?_, fun _ => rfl, ?_, by omega⟩⟩
          · rw [on_sound he hn h1, on_sound he hc h2]
            unfold Instr.makeSlice
            simp only [Sem.run_bind, run_under hu, Result.andThen_ok, asInt, asIntOf, Sem.run_pure, run_tinfo hi1, hi3, w1, w2]
            have hbi : ((j.by_ : Int) * (cc : Int)) ≤ 140737488355328 := by have := Int.ofNat_le.2 hbig; rw [← Int.natCast_mul]; exact this
            have t1 : (decide ((cc : Int) < 0) || decide ((j.by_ : Int) * (cc : Int) > 2 ^ 48)) = false := by
              rw [Bool.or_eq_false_iff]
              exact ⟨decide_eq_false (by omega), decide_eq_false (by omega)⟩
            have t2 : (decide ((nn : Int) < 0)) = false := decide_eq_false (by omega)
            have t3 : (decide ((nn : Int) > (cc : Int))) = false := decide_eq_false (by omega)
            rw [if_neg (by rw [t1, t2, t3]; simp)]
            simp only [Sem.run_bind, run_askRoom, Result.andThen_ok, run_size hi1, hi2, Int.toNat_natCast]
            by_cases hn0 : cc * j.sz = 0
            · simp only [hn0, if_true, Sem.run_bind, Sem.run_pure, Result.andThen_ok, newRow, run_newObj]
              have e0 : ∀ f : Nat → Value, (Array.range 0).map f = #[] := fun f => by simp
              rw [e0, e0]
              rfl
            · simp only [hn0, if_false, Sem.run_bind, run_zero hi1 hi4, Sem.run_pure, Result.andThen_ok, newRow, run_newObj, hzs]
              rfl
          · intro hf; rw [nbeq, beq_iff_eq] at hf; exact hf.symm
          · simp
        · simp at hv
    · simp at h
  all_goals
    first
      | (simp only [cMO, reduceCtorEq] at h; done)
      | (simp only [cMO, Option.map_eq_some_iff, reduceCtorEq, and_false, exists_false] at h; done)
      | (simp only [cMO] at h; (repeat' split at h) <;> simp at h; done)
      | skip
  case makeFunc fn first caps =>
    cases fn <;> simp only [cMO, reduceCtorEq] at h
    split at h <;> simp at h
  case call c =>
    simp only [cMO] at h
    split at h
    · split at h
      · exact absurd h (by
          intro hh
          unfold cBuiltin at hh
          (repeat' split at hh) <;> simp at hh)
      · (repeat' split at h) <;> simp at h
      · simp at h
      · simp at h
    · simp at h
end Go.Ev
end
section
set_option linter.unusedVariables false
set_option linter.unusedSimpArgs false
set_option maxRecDepth 20000
namespace Go.Ev
open Go
theorem famOf_spec {ρ : Rho} {s s' : St} {w : World} (h : Rel ρ s w) {bl d f : Nat} {ms : List (Nat × Nat × Nat)} (hf : famOf s bl = some (s', d, f, ms)) :
    Rel ρ s' w ∧ s'.nb = s.nb ∧ s'.fm.get f = some ms ∧ f < s'.nf ∧ ∃ b b', s.h.get bl = some b ∧ s'.h.get bl = some b' ∧ b'.c = b.c ∧ b'.fam = f + 1 ∧ b'.d = d := by
  unfold famOf at hf
  cases hb : s.h.get bl with
  | none => rw [hb] at hf; simp at hf
  | some b =>
    rw [hb] at hf
    simp only at hf
    cases hfa : b.fam with
    | zero =>
      rw [hfa] at hf
      simp only [Option.some.injEq, Prod.mk.injEq] at hf
      obtain ⟨rfl, rfl, rfl, rfl⟩ := hf
      have hget : ∀ y, (T.upd (some (⟨b.c, Nat.succ s.nf, 0⟩ : Bk)) s.h bl).get y = if y = bl then some ⟨b.c, Nat.succ s.nf, 0⟩ else s.h.get y := fun y => T.get_upd _ _ _ _
      have hfm : ∀ g, (T.upd (some [(bl, 0, llen b.c)]) s.fm s.nf).get g = if g = s.nf then some [(bl, 0, llen b.c)] else s.fm.get g := fun g => T.get_upd _ _ _ _
      refine ⟨⟨h.dom, h.blk, ?_, ?_, ?_, ?_, ?_⟩, rfl, (hfm s.nf).trans (if_pos rfl), Nat.lt_succ_self _, b, ⟨b.c, Nat.succ s.nf, 0⟩, rfl, (hget bl).trans (if_pos rfl), rfl, rfl, rfl⟩
      · intro x cb sh z b' hx hb'
        change (T.upd (some (⟨b.c, Nat.succ s.nf, 0⟩ : Bk)) s.h bl).get x = some b' at hb'
        rw [hget] at hb'
        split at hb'
        · rename_i e; subst e
          simp only [Option.some.injEq] at hb'; subst hb'
          exact h.con x cb sh z b hx hb
        · exact h.con x cb sh z b' hx hb'
      · intro x y cb sh sh' z z' b1 b2 hne hx hy h1 h2
        change (T.upd (some (⟨b.c, Nat.succ s.nf, 0⟩ : Bk)) s.h bl).get x = some b1 at h1
        change (T.upd (some (⟨b.c, Nat.succ s.nf, 0⟩ : Bk)) s.h bl).get y = some b2 at h2
        rw [hget] at h1 h2
        split at h1
        · rename_i e; subst e
          split at h2
          · rename_i e'; exact absurd e'.symm hne
          · have := h.inj x y cb sh sh' z z' b b2 hne hx hy hb h2
            exact absurd hfa this.2.1
        · split at h2
          · rename_i e'; subst e'
            have := h.inj x y cb sh sh' z z' b1 b hne hx hy h1 hb
            exact absurd (this.1.trans hfa) this.2.1
          · exact h.inj x y cb sh sh' z z' b1 b2 hne hx hy h1 h2
      · intro x b' g hb' hg
        change (T.upd (some (⟨b.c, Nat.succ s.nf, 0⟩ : Bk)) s.h bl).get x = some b' at hb'
        rw [hget] at hb'
        show ∃ ms, (T.upd (some [(bl, 0, llen b.c)]) s.fm s.nf).get g = some ms ∧ _
        rw [hfm]
        split at hb'
        · rename_i e; subst e
          simp only [Option.some.injEq] at hb'; subst hb'
          have : g = s.nf := by simpa using hg.symm
          subst this
          rw [if_pos rfl]
          exact ⟨_, rfl, by simp [llen_eq]⟩
        · have hlt := h.nfl x b' hb'
          rw [if_neg (by omega)]
          exact h.fam x b' g hb' hg
      · intro x b' hb'
        change (T.upd (some (⟨b.c, Nat.succ s.nf, 0⟩ : Bk)) s.h bl).get x = some b' at hb'
        rw [hget] at hb'
        show b'.fam ≤ s.nf + 1
        split at hb'
        · simp only [Option.some.injEq] at hb'; subst hb'; exact Nat.le_refl _
        · have := h.nfl x b' hb'; omega
      · intro x b' hb'
        change (T.upd (some (⟨b.c, Nat.succ s.nf, 0⟩ : Bk)) s.h bl).get x = some b' at hb'
        rw [hget] at hb'
        split at hb'
        · rename_i e; subst e; exact h.lt x b hb
        · exact h.lt x b' hb'
    | succ g =>
      rw [hfa] at hf
      simp only at hf
      split at hf
      · simp at hf
      · rename_i ms' hms
        simp only [Option.some.injEq, Prod.mk.injEq] at hf
        obtain ⟨rfl, rfl, rfl, rfl⟩ := hf
        exact ⟨h, rfl, hms, by have := h.nfl bl b hb; omega, b, b, rfl, hb, rfl, hfa, rfl⟩
theorem grow_spec {ρ : Rho} {s : St} {w : World} (h : Rel ρ s w) {f d lo hi : Nat} {ms : List (Nat × Nat × Nat)} (hms : s.fm.get f = some ms) (l : List S) :
    (∀ y b, (grow s f d lo hi ms l).h.get y = some b → (y = s.nb ∧ b = ⟨l, f + 1, d⟩) ∨ (y ≠ s.nb ∧ s.h.get y = some b ∧ (b.fam = f + 1 → ¬ (b.d < hi ∧ lo < b.d + b.c.length)))) ∧
    (∀ y b g, (grow s f d lo hi ms l).h.get y = some b → b.fam = g + 1 → ∃ ms', (grow s f d lo hi ms l).fm.get g = some ms' ∧ (y, b.d, b.c.length) ∈ ms') := by
  obtain ⟨k1, k2⟩ := kill_spec s.nb lo hi s.h ms
  have hget : ∀ y, (grow s f d lo hi ms l).h.get y = if y = s.nb then some ⟨l, f + 1, d⟩ else (kill s.nb lo hi s.h ms).1.get y := fun y => T.get_upd (some (⟨l, f + 1, d⟩ : Bk)) _ _ _
  have hfm : ∀ g, (grow s f d lo hi ms l).fm.get g = if g = f then some ((s.nb, d, llen l) :: (kill s.nb lo hi s.h ms).2) else s.fm.get g := fun g => T.get_upd (some ((s.nb, d, llen l) :: (kill s.nb lo hi s.h ms).2)) s.fm f g
  have hold : ∀ y b, y ≠ s.nb → (kill s.nb lo hi s.h ms).1.get y = some b → s.h.get y = some b ∧ (b.fam = f + 1 → (y, b.d, b.c.length) ∈ ms ∧ ¬ (b.d < hi ∧ lo < b.d + b.c.length)) := by
    intro y b hy hb
    have hb' := hb
    rw [k1] at hb
    split at hb
    · simp at hb
    · rename_i hno
      refine ⟨hb, fun hf => ?_⟩
      obtain ⟨ms', e1, e2⟩ := h.fam y b f hb hf
      rw [hms] at e1
      simp only [Option.some.injEq] at e1; subst e1
      exact ⟨e2, fun hov => hno ⟨_, e2, rfl, hy, hov⟩⟩
  refine ⟨fun y b hb => ?_, fun y b g hb hg => ?_⟩
  · rw [hget] at hb
    split at hb
    · rename_i e; simp only [Option.some.injEq] at hb; exact .inl ⟨e, hb.symm⟩
    · rename_i e
      obtain ⟨h1, h2⟩ := hold y b e hb
      exact .inr ⟨e, h1, fun hf => (h2 hf).2⟩
  · rw [hget] at hb
    rw [hfm]
    split at hb
    · rename_i e
      simp only [Option.some.injEq] at hb; subst hb
      have : g = f := by simpa using hg.symm
      subst this
      rw [if_pos rfl]
      exact ⟨_, rfl, by simp [e, llen_eq]⟩
    · rename_i e
      obtain ⟨h1, h2⟩ := hold y b e hb
      by_cases hgf : g = f
      · subst hgf
        rw [if_pos rfl]
        obtain ⟨h3, h4⟩ := h2 hg
        exact ⟨_, rfl, List.mem_cons_of_mem _ ((k2 _).2 ⟨h3, .inr h4⟩)⟩
      · rw [if_neg hgf]
        exact h.fam y b g h1 hg
theorem grow_new {ρ : Rho} {s : St} {w : World} (h : Rel ρ s w) {f d lo hi : Nat} {ms : List (Nat × Nat × Nat)} (hms : s.fm.get f = some ms) (hfn : f < s.nf) {l : List S} {cells : Array Value} (hlen : l.length ≤ cells.size)
    (hl : ∀ (i : Nat) sv, l[i]? = some sv → ∃ cv, cells[i]? = some cv ∧ SR ρ sv cv) (el : TypeId) :
    Rel (ρ.with s.nb (w.heap.size, 0, cells.size)) (grow s f d lo hi ms l) (w.alloc (.cells cells el)) ∧ Go s ρ w (grow s f d lo hi ms l) (ρ.with s.nb (w.heap.size, 0, cells.size)) (w.alloc (.cells cells el)) := by
  obtain ⟨g1, g2⟩ := grow_spec (d := d) (lo := lo) (hi := hi) h hms l
  obtain ⟨ra, go⟩ := h.alloc' hlen hl el
  refine ⟨⟨ra.dom, ra.blk, ?_, ?_, g2, ?_, ?_⟩, go.states rfl rfl⟩
  · intro x cb sh z b hx hb
    rcases g1 x b hb with ⟨rfl, rfl⟩ | ⟨hne, hb', _⟩
    · exact ra.con s.nb cb sh z ⟨l, 0, 0⟩ hx (by rw [get_alloc, if_pos rfl])
    · exact ra.con x cb sh z b hx (by rw [get_alloc, if_neg hne]; exact hb')
  · intro x y cb sh sh' z z' bx b' hne hx hy hbx hby
    rcases g1 x bx hbx with ⟨rfl, rfl⟩ | ⟨hnx, hbx', _⟩
    · rcases g1 y b' hby with ⟨rfl, rfl⟩ | ⟨hny, hby', _⟩
      · exact absurd rfl hne
      · rw [Rho.with_at] at hx
        rw [Rho.with_ne hny] at hy
        simp only [Option.some.injEq, Prod.mk.injEq] at hx
        have := h.block_lt hy
        omega
    · rcases g1 y b' hby with ⟨rfl, rfl⟩ | ⟨hny, hby', _⟩
      · rw [Rho.with_at] at hy
        rw [Rho.with_ne hnx] at hx
        simp only [Option.some.injEq, Prod.mk.injEq] at hy
        have := h.block_lt hx
        omega
      · rw [Rho.with_ne hnx] at hx
        rw [Rho.with_ne hny] at hy
        exact h.inj x y cb sh sh' z z' bx b' hne hx hy hbx' hby'
  · intro x b hb
    show b.fam ≤ s.nf
    rcases g1 x b hb with ⟨rfl, rfl⟩ | ⟨hne, hb', _⟩
    · exact hfn
    · exact h.nfl x b hb'
  · intro x b hb
    show x < s.nb + 1
    rcases g1 x b hb with ⟨rfl, rfl⟩ | ⟨hne, hb', _⟩
    · omega
    · have := h.lt x b hb'; omega
theorem grow_place {ρ : Rho} {s : St} {w : World} (h : Rel ρ s w) {f : Nat} {ms : List (Nat × Nat × Nat)} (hms : s.fm.get f = some ms) (hfn : f < s.nf) {bl o k : Nat} {b : Bk} (hb : s.h.get bl = some b) (hbf : b.fam = f + 1)
    {cb sh z : Nat} (hx : ρ bl = some (cb, sh, z)) {old ns : List S} (hold : old.length = k) (hoc : ∀ (i : Nat) sv, old[i]? = some sv → b.c[o + i]? = some sv) {vs : List Value} (hl : LR (SR ρ) ns vs) (hroom : sh + o + k + vs.length ≤ z) :
    ∃ cur e, w.heap[cb]? = some (.cells cur e (0, 0)) ∧ sh + o + k + vs.length ≤ cur.size ∧
      Rel (ρ.with s.nb (cb, sh + o, z)) (grow s f (b.d + o) (b.d + o + k) (b.d + o + k + ns.length) ms (old ++ ns)) (w.setRow cb (cur.toList.take (sh + o + k) ++ vs ++ cur.toList.drop (sh + o + k + vs.length)).toArray) ∧
      Go s ρ w (grow s f (b.d + o) (b.d + o + k) (b.d + o + k + ns.length) ms (old ++ ns)) (ρ.with s.nb (cb, sh + o, z)) (w.setRow cb (cur.toList.take (sh + o + k) ++ vs ++ cur.toList.drop (sh + o + k + vs.length)).toArray) := by
  obtain ⟨g1, g2⟩ := grow_spec (d := b.d + o) (lo := b.d + o + k) (hi := b.d + o + k + ns.length) h hms (old ++ ns)
  obtain ⟨cur, e, hc, hz⟩ := h.blk bl cb sh z hx
  obtain ⟨hcl, hcon⟩ := h.con bl cb sh z b hx hb
  have hlen := hl.length
  have hroom' : sh + o + k + vs.length ≤ cur.size := by omega
  have hle : ρ.le (ρ.with s.nb (cb, sh + o, z)) := Rho.with_le h.none
  refine ⟨cur, e, hc, hroom', ?_⟩
  have hput : ∀ i, (w.setRow cb (cur.toList.take (sh + o + k) ++ vs ++ cur.toList.drop (sh + o + k + vs.length)).toArray).cell? ⟨cb, i, none⟩ = if sh + o + k ≤ i ∧ i < sh + o + k + vs.length then vs[i - (sh + o + k)]? else w.cell? ⟨cb, i, none⟩ := by
    intro i
    rw [cell_setRow_same w cb i cur _ e (0, 0) hc, get_put cur vs (sh + o + k) i hroom']
    congr 1
    exact (cell_of_row w cb i cur e (0, 0) hc).symm
  have hcase : ∀ x q, ρ.with s.nb (cb, sh + o, z) x = some q → (x = s.nb ∧ q = (cb, sh + o, z)) ∨ (x ≠ s.nb ∧ ρ x = some q) := by
    intro x q hq
    by_cases hk : x = s.nb
    · subst hk
      rw [Rho.with_at] at hq
      exact .inl ⟨rfl, (Option.some.inj hq).symm⟩
    · exact .inr ⟨hk, by rw [Rho.with_ne hk] at hq; exact hq⟩
  have hcoord : ∀ y b' sh' z', y ≠ s.nb → ρ y = some (cb, sh', z') → s.h.get y = some b' → b'.fam = f + 1 ∧ sh' + b.d = sh + b'.d := by
    intro y b' sh' z' hy hy' hb'
    by_cases hyb : y = bl
    · subst hyb
      rw [hx] at hy'
      simp only [Option.some.injEq, Prod.mk.injEq] at hy'
      rw [hb] at hb'
      simp only [Option.some.injEq] at hb'; subst hb'
      exact ⟨hbf, by omega⟩
    · have := h.inj y bl cb sh' sh z' z b' b hyb hy' hx hb' hb
      exact ⟨this.1.trans hbf, this.2.2⟩
  refine ⟨⟨?_, ?_, ?_, ?_, g2, ?_, ?_⟩, ⟨hle, rfl, rfl, rfl, by simp, ?_, ?_, Nat.le_succ _, fun x y hxy => by rcases hcase x y hxy with ⟨rfl, _⟩ | ⟨_, h'⟩; exact .inr (Nat.le_refl _); exact .inl h'⟩⟩
  · intro x q hq
    show x < s.nb + 1
    rcases hcase x q hq with ⟨rfl, _⟩ | ⟨_, hq⟩
    · omega
    · have := h.dom _ _ hq; omega
  · intro x cb' sh' z' hq
    have hany : ∃ y sh'' , ρ y = some (cb', sh'', z') := by
      rcases hcase x _ hq with ⟨_, hq⟩ | ⟨_, hq⟩
      · simp only [Prod.mk.injEq] at hq
        obtain ⟨rfl, _, rfl⟩ := hq
        exact ⟨bl, sh, hx⟩
      · exact ⟨x, sh', hq⟩
    obtain ⟨y, sh'', hy⟩ := hany
    obtain ⟨cs, e', h1, h2⟩ := h.blk y cb' sh'' z' hy
    by_cases hcc : cb' = cb
    · subst hcc
      rw [hc] at h1
      simp only [Option.some.injEq, Obj.cells.injEq] at h1
      obtain ⟨rfl, rfl, _⟩ := h1
      refine ⟨_, e, setRow_heap w cb' cur _ e (0, 0) hc, ?_⟩
      rw [← h2]; simp; omega
    · exact ⟨cs, e', by rw [setRow_other w cb cb' _ hcc]; exact h1, h2⟩
  · intro x cb' sh' z' b' hq hb'
    rcases g1 x b' hb' with ⟨rfl, rfl⟩ | ⟨hne, hb'', hno⟩
    · rw [Rho.with_at] at hq
      simp only [Option.some.injEq, Prod.mk.injEq] at hq
      obtain ⟨rfl, rfl, rfl⟩ := hq
      refine ⟨by simp only [List.length_append]; omega, fun i sv hi => ?_⟩
      rw [hput]
      by_cases hik : i < k
      · rw [List.getElem?_append_left (by omega)] at hi
        rw [if_neg (by omega)]
        obtain ⟨cv, h1, h2⟩ := hcon (o + i) sv (hoc i sv hi)
        exact ⟨cv, by rw [Nat.add_assoc]; exact h1, h2.mono hle⟩
      · rw [List.getElem?_append_right (by omega), hold] at hi
        have hi' : i - k < ns.length := (List.getElem?_eq_some_iff.1 hi).1
        rw [if_pos (by omega)]
        obtain ⟨cv, h1, h2⟩ := hl.get hi
        exact ⟨cv, by rw [show sh + o + i - (sh + o + k) = i - k by omega]; exact h1, h2.mono hle⟩
    · rw [Rho.with_ne hne] at hq
      obtain ⟨h1, h2⟩ := h.con x cb' sh' z' b' hq hb''
      refine ⟨h1, fun i sv hi => ?_⟩
      obtain ⟨cv, h3, h4⟩ := h2 i sv hi
      refine ⟨cv, ?_, h4.mono hle⟩
      by_cases hcc : cb' = cb
      · subst hcc
        obtain ⟨c1, c2⟩ := hcoord x b' sh' z' hne hq hb''
        have hno' := hno c1
        have hi' : i < b'.c.length := (List.getElem?_eq_some_iff.1 hi).1
        rw [hput, if_neg]
        · exact h3
        · omega
      · rw [cell_setRow_other w cb _ _ hcc]; exact h3
  · intro x y cb' sh1 sh2 z1 z2 b1 b2 hne hq1 hq2 h3 h4
    rcases g1 x b1 h3 with ⟨rfl, rfl⟩ | ⟨hnx, h3', _⟩
    · rcases g1 y b2 h4 with ⟨rfl, rfl⟩ | ⟨hny, h4', _⟩
      · exact absurd rfl hne
      · rw [Rho.with_at] at hq1
        rw [Rho.with_ne hny] at hq2
        simp only [Option.some.injEq, Prod.mk.injEq] at hq1
        obtain ⟨rfl, rfl, rfl⟩ := hq1
        obtain ⟨c1, c2⟩ := hcoord y b2 sh2 z2 hny hq2 h4'
        exact ⟨c1.symm, Nat.succ_ne_zero _, by show sh + o + b2.d = sh2 + (b.d + o); omega⟩
    · rcases g1 y b2 h4 with ⟨rfl, rfl⟩ | ⟨hny, h4', _⟩
      · rw [Rho.with_at] at hq2
        rw [Rho.with_ne hnx] at hq1
        simp only [Option.some.injEq, Prod.mk.injEq] at hq2
        obtain ⟨rfl, rfl, rfl⟩ := hq2
        obtain ⟨c1, c2⟩ := hcoord x b1 sh1 z1 hnx hq1 h3'
        exact ⟨c1, by rw [c1]; exact Nat.succ_ne_zero _, by show sh1 + (b.d + o) = sh + o + b1.d; omega⟩
      · rw [Rho.with_ne hnx] at hq1
        rw [Rho.with_ne hny] at hq2
        exact h.inj x y cb' sh1 sh2 z1 z2 b1 b2 hne hq1 hq2 h3' h4'
  · intro x b' hb'
    show b'.fam ≤ s.nf
    rcases g1 x b' hb' with ⟨rfl, rfl⟩ | ⟨hne, hb'', _⟩
    · exact hfn
    · exact h.nfl x b' hb''
  · intro x b' hb'
    show x < s.nb + 1
    rcases g1 x b' hb' with ⟨rfl, rfl⟩ | ⟨hne, hb'', _⟩
    · omega
    · have := h.lt x b' hb''; omega
  · intro c hc' hnot
    exact setRow_other w cb c _ (fun e => hnot bl sh z (by rw [e]; exact hx))
  · intro x cb' sh' z' hq
    rcases hcase x _ hq with ⟨_, hq⟩ | ⟨_, hq⟩
    · simp only [Prod.mk.injEq] at hq
      obtain ⟨rfl, _, rfl⟩ := hq
      exact .inl ⟨bl, sh, z', hx⟩
    · exact .inl ⟨x, sh', z', hq⟩
end Go.Ev
end
