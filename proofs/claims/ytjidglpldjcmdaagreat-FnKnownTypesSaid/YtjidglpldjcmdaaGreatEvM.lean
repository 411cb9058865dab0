/-
The heap: new blocks, stores, and what they leave of the relation.
-/
import Derived.Test.YtjidglpldjcmdaaGreatEvU
import Derived.Laws.BytesString
set_option linter.unusedVariables false
set_option linter.unusedSimpArgs false
set_option maxRecDepth 20000
namespace Go.Ev
open Go

/-- A map of blocks with one more. -/
def Rho.with (ρ : Rho) (x : Nat) (y : Nat × Nat × Nat) : Rho := fun k => if k = x then some y else ρ k
theorem Rho.with_le {ρ : Rho} {x : Nat} {y : Nat × Nat × Nat} (h : ρ x = none) : ρ.le (ρ.with x y) := fun k z e => by
  unfold Rho.with
  by_cases hk : k = x
  · subst hk; rw [h] at e; cases e
  · rw [if_neg hk]; exact e
theorem Rho.with_at (ρ : Rho) (x : Nat) (y : Nat × Nat × Nat) : ρ.with x y x = some y := by simp [Rho.with]
theorem Rho.with_ne {ρ : Rho} {x k : Nat} {y : Nat × Nat × Nat} (h : k ≠ x) : ρ.with x y k = ρ k := by simp [Rho.with, h]

theorem Rel.none {ρ : Rho} {s : St} {w : World} (h : Rel ρ s w) : ρ s.nb = Option.none := by
  cases hx : ρ s.nb with
  | none => rfl
  | some y => exact absurd (h.dom _ _ hx) (Nat.lt_irrefl _)
theorem Rel.block_lt {ρ : Rho} {s : St} {w : World} (h : Rel ρ s w) {x cb sh z : Nat} (hx : ρ x = some (cb, sh, z)) : cb < w.heap.size := by
  obtain ⟨cs, e, h1, _⟩ := h.blk x cb sh z hx
  exact (Array.getElem?_eq_some_iff.1 h1).1

theorem get_alloc (s : St) (l : List S) (x : Nat) : (alloc s l).h.get x = if x = s.nb then some ⟨l, 0, 0⟩ else s.h.get x := by
  unfold Ev.alloc; exact T.get_upd (some (⟨l, 0, 0⟩ : Bk)) s.h s.nb x

theorem Rel.alloc' {ρ : Rho} {s : St} {w : World} (h : Rel ρ s w) {l : List S} {cells : Array Value} (hlen : l.length ≤ cells.size) (hl : ∀ (i : Nat) sv, l[i]? = some sv → ∃ cv, cells[i]? = some cv ∧ SR ρ sv cv) (el : TypeId) :
    Rel (ρ.with s.nb (w.heap.size, 0, cells.size)) (alloc s l) (w.alloc (.cells cells el)) ∧ Go s ρ w (alloc s l) (ρ.with s.nb (w.heap.size, 0, cells.size)) (w.alloc (.cells cells el)) := by
  have hn := h.none
  have hle : ρ.le (ρ.with s.nb (w.heap.size, 0, cells.size)) := Rho.with_le hn
  have hcase : ∀ x cb sh z, ρ.with s.nb (w.heap.size, 0, cells.size) x = some (cb, sh, z) → (x = s.nb ∧ cb = w.heap.size ∧ sh = 0 ∧ z = cells.size) ∨ (x ≠ s.nb ∧ ρ x = some (cb, sh, z)) := by
    intro x cb sh z hx
    by_cases hk : x = s.nb
    · subst hk
      rw [Rho.with_at] at hx
      simp only [Option.some.injEq, Prod.mk.injEq] at hx
      exact .inl ⟨rfl, hx.1.symm, hx.2.1.symm, hx.2.2.symm⟩
    · exact .inr ⟨hk, by rw [Rho.with_ne hk] at hx; exact hx⟩
  refine ⟨⟨?_, ?_, ?_, ?_, ?_, ?_, ?_⟩, ⟨hle, rfl, rfl, rfl, by simp, ?_, ?_, Nat.le_succ _, fun x y hxy => by obtain ⟨cb, sh, z⟩ := y; rcases hcase x cb sh z hxy with ⟨rfl, _⟩ | ⟨_, h'⟩; exact .inr (Nat.le_refl _); exact .inl h'⟩⟩
  · intro x ⟨cb, sh, z⟩ hx
    show x < s.nb + 1
    rcases hcase x cb sh z hx with ⟨rfl, _⟩ | ⟨_, hx⟩
    · omega
    · have := h.dom _ _ hx; omega
  · intro x cb sh z hx
    rcases hcase x cb sh z hx with ⟨rfl, rfl, rfl, rfl⟩ | ⟨_, hx⟩
    · exact ⟨cells, el, heap_alloc_new w _, rfl⟩
    · obtain ⟨cs, e, h1, h2⟩ := h.blk x cb sh z hx
      exact ⟨cs, e, by rw [heap_alloc_old w _ _ (h.block_lt hx)]; exact h1, h2⟩
  · intro x cb sh z b hx hb
    rw [get_alloc] at hb
    rcases hcase x cb sh z hx with ⟨rfl, rfl, rfl, rfl⟩ | ⟨hne, hx⟩
    · rw [if_pos rfl] at hb
      simp only [Option.some.injEq] at hb; subst hb
      refine ⟨by show 0 + l.length ≤ _; omega, fun i sv hi => ?_⟩
      obtain ⟨cv, h1, h2⟩ := hl i sv hi
      exact ⟨cv, by rw [Nat.zero_add, World.cell?_alloc_new]; exact h1, h2.mono hle⟩
    · rw [if_neg hne] at hb
      obtain ⟨h1, h2⟩ := h.con x cb sh z b hx hb
      refine ⟨h1, fun i sv hi => ?_⟩
      obtain ⟨cv, h3, h4⟩ := h2 i sv hi
      exact ⟨cv, by rw [World.cell?_alloc_lt w _ _ (h.block_lt hx)]; exact h3, h4.mono hle⟩
  · intro x y cb sh sh' z z' bx b' hne hx hy hbx hby
    rw [get_alloc] at hbx hby
    rcases hcase x cb sh z hx with ⟨rfl, rfl, rfl, rfl⟩ | ⟨hnx, hx⟩
    · rcases hcase y _ sh' z' hy with ⟨rfl, _⟩ | ⟨hny, hy⟩
      · exact absurd rfl hne
      · exact absurd (h.block_lt hy) (Nat.lt_irrefl _)
    · rcases hcase y _ sh' z' hy with ⟨rfl, rfl, _⟩ | ⟨hny, hy⟩
      · exact absurd (h.block_lt hx) (Nat.lt_irrefl _)
      · rw [if_neg hnx] at hbx
        rw [if_neg hny] at hby
        exact h.inj x y cb sh sh' z z' bx b' hne hx hy hbx hby
  · intro x b f hb hf
    rw [get_alloc] at hb
    split at hb
    · simp only [Option.some.injEq] at hb; subst hb; simp at hf
    · exact h.fam x b f hb hf
  · intro x b hb
    rw [get_alloc] at hb
    split at hb
    · simp only [Option.some.injEq] at hb; subst hb; exact Nat.zero_le _
    · exact h.nfl x b hb
  · intro x b hb
    show x < s.nb + 1
    rw [get_alloc] at hb
    split at hb
    · omega
    · have := h.lt x b hb; omega
  · intro c hc _
    exact heap_alloc_old w _ _ hc
  · intro x cb sh z hx
    rcases hcase x cb sh z hx with ⟨rfl, rfl, rfl, rfl⟩ | ⟨_, hx⟩
    · exact .inr (Nat.le_refl _)
    · exact .inl ⟨x, sh, z, hx⟩

theorem Rel.alloc {ρ : Rho} {s : St} {w : World} (h : Rel ρ s w) {l : List S} {cells : Array Value} (hl : LR (SR ρ) l cells.toList) (el : TypeId) :
    Rel (ρ.with s.nb (w.heap.size, 0, cells.size)) (Ev.alloc s l) (w.alloc (.cells cells el)) ∧ Go s ρ w (Ev.alloc s l) (ρ.with s.nb (w.heap.size, 0, cells.size)) (w.alloc (.cells cells el)) :=
  h.alloc' (by rw [hl.length]; simp) (fun i sv hi => by
    obtain ⟨cv, h1, h2⟩ := hl.get hi
    exact ⟨cv, by simpa using h1, h2⟩) el

/-! Stores. -/
/-- Of the blocks of x's family none but x has a cell from o to o + n of x. -/
def NO (s : St) (x o n : Nat) : Prop :=
  ∀ y b bx, y ≠ x → s.h.get x = some bx → s.h.get y = some b → b.fam = bx.fam → bx.fam ≠ 0 → ¬ (b.d < bx.d + o + n ∧ bx.d + o < b.d + b.c.length)

theorem kill_spec (x lo hi : Nat) (h : T Bk) : ∀ (ms : List (Nat × Nat × Nat)),
    (∀ y, (kill x lo hi h ms).1.get y = if (∃ m ∈ ms, m.1 = y ∧ m.1 ≠ x ∧ m.2.1 < hi ∧ lo < m.2.1 + m.2.2) then none else h.get y) ∧
    (∀ m, m ∈ (kill x lo hi h ms).2 ↔ m ∈ ms ∧ (m.1 = x ∨ ¬ (m.2.1 < hi ∧ lo < m.2.1 + m.2.2)))
  | [] => by
    refine ⟨fun y => ?_, fun m => ?_⟩
    · simp [kill]
    · simp [kill]
  | m :: ms => by
    obtain ⟨ih1, ih2⟩ := kill_spec x lo hi h ms
    have red : kill x lo hi h (m :: ms) = (bif Nat.beq m.1 x then ((kill x lo hi h ms).1, m :: (kill x lo hi h ms).2)
      else bif Nat.ble (Nat.succ m.2.1) hi && Nat.ble (Nat.succ lo) (Nat.add m.2.1 m.2.2) then (T.upd none (kill x lo hi h ms).1 m.1, (kill x lo hi h ms).2)
      else ((kill x lo hi h ms).1, m :: (kill x lo hi h ms).2)) := rfl
    rw [red]
    by_cases h1 : m.1 = x
    · have : Nat.beq m.1 x = true := by rw [nbeq]; simpa using h1
      rw [this, cond_true]
      refine ⟨fun y => ?_, fun m' => ?_⟩
      · rw [ih1]
        congr 1
        rw [eq_iff_iff]
        constructor
        · rintro ⟨m', hm, hh⟩; exact ⟨m', List.mem_cons_of_mem _ hm, hh⟩
        · rintro ⟨m', hm, hh⟩
          rcases List.mem_cons.1 hm with rfl | hm
          · exact absurd h1 hh.2.1
          · exact ⟨m', hm, hh⟩
      · simp only [List.mem_cons, ih2]
        constructor
        · rintro (rfl | ⟨a, b⟩)
          · exact ⟨.inl rfl, .inl h1⟩
          · exact ⟨.inr a, b⟩
        · rintro ⟨rfl | a, b⟩
          · exact .inl rfl
          · exact .inr ⟨a, b⟩
    · have : Nat.beq m.1 x = false := by rw [nbeq]; simpa using h1
      rw [this, cond_false]
      by_cases h2 : m.2.1 < hi ∧ lo < m.2.1 + m.2.2
      · have : (Nat.ble (Nat.succ m.2.1) hi && Nat.ble (Nat.succ lo) (Nat.add m.2.1 m.2.2)) = true := by
          rw [nble, nble]; simpa [Nat.succ_le_iff] using h2
        rw [this, cond_true]
        refine ⟨fun y => ?_, fun m' => ?_⟩
        · show (T.upd none (kill x lo hi h ms).1 m.1).get y = _
          rw [T.get_upd, ih1]
          by_cases hy : y = m.1
          · subst hy
            rw [if_pos rfl, if_pos ⟨m, List.mem_cons_self .., rfl, h1, h2⟩]
          · rw [if_neg hy]
            congr 1
            rw [eq_iff_iff]
            constructor
            · rintro ⟨m', hm, hh⟩; exact ⟨m', List.mem_cons_of_mem _ hm, hh⟩
            · rintro ⟨m', hm, hh⟩
              rcases List.mem_cons.1 hm with rfl | hm
              · exact absurd hh.1.symm hy
              · exact ⟨m', hm, hh⟩
        · show m' ∈ (kill x lo hi h ms).2 ↔ _
          rw [ih2]
          constructor
          · rintro ⟨a, b⟩; exact ⟨List.mem_cons_of_mem _ a, b⟩
          · rintro ⟨a, b⟩
            rcases List.mem_cons.1 a with rfl | a
            · rcases b with b | b
              · exact absurd b h1
              · exact absurd h2 b
            · exact ⟨a, b⟩
      · have : (Nat.ble (Nat.succ m.2.1) hi && Nat.ble (Nat.succ lo) (Nat.add m.2.1 m.2.2)) = false := by
          rw [nble, nble]; rw [Bool.eq_false_iff]; intro hh; apply h2; simpa [Nat.succ_le_iff] using hh
        rw [this, cond_false]
        refine ⟨fun y => ?_, fun m' => ?_⟩
        · rw [ih1]
          congr 1
          rw [eq_iff_iff]
          constructor
          · rintro ⟨m', hm, hh⟩; exact ⟨m', List.mem_cons_of_mem _ hm, hh⟩
          · rintro ⟨m', hm, hh⟩
            rcases List.mem_cons.1 hm with rfl | hm
            · exact absurd hh.2.2 h2
            · exact ⟨m', hm, hh⟩
        · simp only [List.mem_cons, ih2]
          constructor
          · rintro (rfl | ⟨a, b⟩)
            · exact ⟨.inl rfl, .inr h2⟩
            · exact ⟨.inr a, b⟩
          · rintro ⟨rfl | a, b⟩
            · exact .inl rfl
            · exact .inr ⟨a, b⟩

/-- What preparing a store leaves. -/
theorem prep_spec {ρ : Rho} {s s' : St} {w : World} (h : Rel ρ s w) {x o n : Nat} (hp : prep s x o n = some s') :
    Rel ρ s' w ∧ NO s' x o n ∧ s'.nb = s.nb ∧ s'.nf = s.nf ∧ (∃ b, s'.h.get x = some b ∧ s.h.get x = some b ∧ o + n ≤ b.c.length) ∧ (∀ y b, s'.h.get y = some b → s.h.get y = some b) := by
  unfold prep at hp
  cases hx : s.h.get x with
  | none => rw [hx] at hp; simp at hp
  | some b =>
    rw [hx] at hp
    simp only at hp
    obtain ⟨hle, hp⟩ := cond_some hp
    have hle := Nat.le_of_ble_eq_true hle
    simp only [llen_eq, Nat.add_eq] at hle
    cases hf : b.fam with
    | zero =>
      rw [hf] at hp
      simp only [Option.some.injEq] at hp; subst hp
      refine ⟨h, ?_, rfl, rfl, ⟨b, hx, rfl, hle⟩, fun _ _ h => h⟩
      intro y b' bx _ hbx _ _ hne
      rw [hx] at hbx
      simp only [Option.some.injEq] at hbx; subst hbx
      exact absurd hf hne
    | succ f =>
      rw [hf] at hp
      simp only at hp
      cases hm : s.fm.get f with
      | none => rw [hm] at hp; simp at hp
      | some ms =>
        rw [hm] at hp
        simp only [Option.some.injEq] at hp
        obtain ⟨k1, k2⟩ := kill_spec x (b.d + o) (b.d + o + n) s.h ms
        subst hp
        have hget : ∀ y bb, (kill x (b.d + o) (b.d + o + n) s.h ms).1.get y = some bb → s.h.get y = some bb := by
          intro y bb hy
          rw [k1] at hy
          split at hy
          · simp at hy
          · exact hy
        have hx' : (kill x (b.d + o) (b.d + o + n) s.h ms).1.get x = some b := by
          rw [k1, if_neg]
          · exact hx
          · rintro ⟨m, _, e, ne, _⟩; exact ne e
        refine ⟨?_, ?_, rfl, rfl, ⟨b, hx', rfl, hle⟩, hget⟩
        · refine h.drop rfl rfl hget fun y bb g hy hg => ?_
          show ∃ ms', (T.upd (some (kill x (b.d + o) (b.d + o + n) s.h ms).2) s.fm f).get g = some ms' ∧ _
          rw [T.get_upd]
          obtain ⟨ms', e1, e2⟩ := h.fam y bb g (hget y bb hy) hg
          by_cases hgf : g = f
          · subst hgf
            rw [if_pos rfl]
            rw [hm] at e1
            simp only [Option.some.injEq] at e1; subst e1
            refine ⟨_, rfl, (k2 _).2 ⟨e2, ?_⟩⟩
            by_cases hyx : y = x
            · exact .inl hyx
            · refine .inr fun hov => ?_
              have hy' : (kill x (b.d + o) (b.d + o + n) s.h ms).1.get y = some bb := hy
              rw [k1, if_pos ⟨_, e2, rfl, hyx, hov⟩] at hy'
              simp at hy'
          · rw [if_neg hgf]; exact ⟨ms', e1, e2⟩
        · intro y bb bx hyx hbx hby hfam hne hov
          change (kill x (b.d + o) (b.d + o + n) s.h ms).1.get x = some bx at hbx
          change (kill x (b.d + o) (b.d + o + n) s.h ms).1.get y = some bb at hby
          rw [hx'] at hbx
          simp only [Option.some.injEq] at hbx; subst hbx
          obtain ⟨ms', e1, e2⟩ := h.fam y bb f (hget y bb hby) (by rw [hfam, hf])
          rw [hm] at e1
          simp only [Option.some.injEq] at e1; subst e1
          rw [k1, if_pos ⟨_, e2, rfl, hyx, hov⟩] at hby
          simp at hby

theorem get_put (cur : Array Value) (vs : List Value) (k i : Nat) (hl : k + vs.length ≤ cur.size) :
    (cur.toList.take k ++ vs ++ cur.toList.drop (k + vs.length)).toArray[i]? = if k ≤ i ∧ i < k + vs.length then vs[i - k]? else cur[i]? := by
  rw [List.getElem?_toArray, List.append_assoc]
  have hk : (cur.toList.take k).length = k := by simp; omega
  by_cases h1 : i < k
  · rw [List.getElem?_append_left (by omega), if_neg (by omega), List.getElem?_take, if_pos h1]; simp
  · rw [List.getElem?_append_right (by omega), hk]
    by_cases h2 : i < k + vs.length
    · rw [List.getElem?_append_left (by omega), if_pos ⟨by omega, h2⟩]
    · rw [List.getElem?_append_right (by omega), if_neg (by omega), List.getElem?_drop]
      rw [show k + vs.length + (i - k - vs.length) = i by omega]; simp

/-- A store, prepared. -/
theorem setc_spec {ρ : Rho} {s s' : St} {w : World} (h : Rel ρ s w) {x o : Nat} {l : List S} (hs : setc s x o l = some s') {cb sh z : Nat} (hx : ρ x = some (cb, sh, z)) (hno : NO s x o l.length)
    (hfit : ∀ b, s.h.get x = some b → o + l.length ≤ b.c.length) {vs : List Value} (hl : LR (SR ρ) l vs) :
    ∃ cur e, w.heap[cb]? = some (.cells cur e (0, 0)) ∧ sh + o + vs.length ≤ cur.size ∧
      Rel ρ s' (w.setRow cb (cur.toList.take (sh + o) ++ vs ++ cur.toList.drop (sh + o + vs.length)).toArray) ∧ Go s ρ w s' ρ (w.setRow cb (cur.toList.take (sh + o) ++ vs ++ cur.toList.drop (sh + o + vs.length)).toArray) := by
  unfold setc at hs
  cases hb : s.h.get x with
  | none => rw [hb] at hs; simp at hs
  | some b =>
    rw [hb] at hs
    simp only [Option.some.injEq] at hs
    obtain ⟨cur, e, hc, hz⟩ := h.blk x cb sh z hx
    obtain ⟨hcl, hcon⟩ := h.con x cb sh z b hx hb
    have hfit' := hfit b hb
    have hlen := hl.length
    have hroom : sh + o + vs.length ≤ cur.size := by omega
    refine ⟨cur, e, hc, hroom, ?_⟩
    have hput : ∀ i, (w.setRow cb (cur.toList.take (sh + o) ++ vs ++ cur.toList.drop (sh + o + vs.length)).toArray).cell? ⟨cb, i, none⟩ = if sh + o ≤ i ∧ i < sh + o + vs.length then vs[i - (sh + o)]? else w.cell? ⟨cb, i, none⟩ := by
      intro i
      rw [cell_setRow_same w cb i cur _ e (0, 0) hc, get_put cur vs (sh + o) i hroom]
      congr 1
      exact (cell_of_row w cb i cur e (0, 0) hc).symm
    have hget : ∀ y, s'.h.get y = if y = x then some ⟨lput b.c l o, b.fam, b.d⟩ else s.h.get y := by
      intro y; rw [← hs]; exact T.get_upd (some (⟨lput b.c l o, b.fam, b.d⟩ : Bk)) s.h x y
    have hnb : s'.nb = s.nb := by rw [← hs]
    have hnf : s'.nf = s.nf := by rw [← hs]
    have hfm : s'.fm = s.fm := by rw [← hs]
    have hputl : (lput b.c l o).length = b.c.length := by rw [lput_eq]; simp; omega
    have hputg : ∀ i, (lput b.c l o)[i]? = if o ≤ i ∧ i < o + l.length then l[i - o]? else b.c[i]? := by
      intro i
      rw [lput_eq]
      have hk : (b.c.take o).length = o := by simp; omega
      by_cases h1 : i < o
      · rw [List.getElem?_append_left (by omega), if_neg (by omega), List.getElem?_take, if_pos h1]
      · rw [List.getElem?_append_right (by omega), hk]
        by_cases h2 : i < o + l.length
        · rw [List.getElem?_append_left (by omega), if_pos ⟨by omega, h2⟩]
        · rw [List.getElem?_append_right (by omega), if_neg (by omega), List.getElem?_drop]
          rw [show o + l.length + (i - o - l.length) = i by omega]
    refine ⟨⟨?_, ?_, ?_, ?_, ?_, ?_, ?_⟩, ⟨Rho.le_refl _, rfl, rfl, rfl, by simp, ?_, ?_, by rw [hnb]; exact Nat.le_refl _, fun _ _ h => .inl h⟩⟩
    · intro y q hy; rw [hnb]; exact h.dom y q hy
    · intro y cb' sh' z' hy
      obtain ⟨cs, e', h1, h2⟩ := h.blk y cb' sh' z' hy
      by_cases hcc : cb' = cb
      · subst hcc
        rw [hc] at h1
        simp only [Option.some.injEq, Obj.cells.injEq] at h1
        obtain ⟨rfl, rfl, _⟩ := h1
        refine ⟨_, e, setRow_heap w cb' cur _ e (0, 0) hc, ?_⟩
        rw [← h2]; simp; omega
      · exact ⟨cs, e', by rw [setRow_other w cb cb' _ hcc]; exact h1, h2⟩
    · intro y cb' sh' z' by' hy hby
      rw [hget] at hby
      by_cases hyx : y = x
      · subst hyx
        rw [if_pos rfl] at hby
        simp only [Option.some.injEq] at hby; subst hby
        rw [hx] at hy
        simp only [Option.some.injEq, Prod.mk.injEq] at hy
        obtain ⟨rfl, rfl, rfl⟩ := hy
        refine ⟨by rw [hputl]; exact hcl, fun i sv hi => ?_⟩
        rw [hputg] at hi
        rw [hput]
        by_cases hin : o ≤ i ∧ i < o + l.length
        · rw [if_pos hin] at hi
          rw [if_pos (by omega)]
          obtain ⟨cv, h1, h2⟩ := hl.get hi
          exact ⟨cv, by rw [show sh + i - (sh + o) = i - o by omega]; exact h1, h2⟩
        · rw [if_neg hin] at hi
          rw [if_neg (by omega)]
          exact hcon i sv hi
      · rw [if_neg hyx] at hby
        obtain ⟨h1, h2⟩ := h.con y cb' sh' z' by' hy hby
        refine ⟨h1, fun i sv hi => ?_⟩
        obtain ⟨cv, h3, h4⟩ := h2 i sv hi
        refine ⟨cv, ?_, h4⟩
        by_cases hcc : cb' = cb
        · subst hcc
          obtain ⟨i1, i2, i3⟩ := h.inj y x cb' sh' sh z' z by' b hyx hy hx hby hb
          have hno' := hno y by' b hyx hb hby i1 (by rw [← i1]; exact i2)
          have hi' : i < by'.c.length := (List.getElem?_eq_some_iff.1 hi).1
          rw [hput, if_neg]
          · exact h3
          · omega
        · rw [cell_setRow_other w cb _ _ hcc]; exact h3
    · intro y y' cb' sh1 sh2 z1 z2 b1 b2 hne h1 h2 h3 h4
      rw [hget] at h3 h4
      have e1 : ∃ b1', s.h.get y = some b1' ∧ b1'.fam = b1.fam ∧ b1'.d = b1.d := by
        split at h3
        · rename_i hh; subst hh; simp only [Option.some.injEq] at h3; subst h3; exact ⟨b, hb, rfl, rfl⟩
        · exact ⟨b1, h3, rfl, rfl⟩
      have e2 : ∃ b2', s.h.get y' = some b2' ∧ b2'.fam = b2.fam ∧ b2'.d = b2.d := by
        split at h4
        · rename_i hh; subst hh; simp only [Option.some.injEq] at h4; subst h4; exact ⟨b, hb, rfl, rfl⟩
        · exact ⟨b2, h4, rfl, rfl⟩
      obtain ⟨b1', g1, g2, g3⟩ := e1
      obtain ⟨b2', g4, g5, g6⟩ := e2
      have := h.inj y y' cb' sh1 sh2 z1 z2 b1' b2' hne h1 h2 g1 g4
      rw [← g2, ← g3, ← g5, ← g6]; exact this
    · intro y bb f hy hf
      rw [hget] at hy
      rw [hfm]
      split at hy
      · rename_i hh; subst hh; simp only [Option.some.injEq] at hy; subst hy
        obtain ⟨ms, g1, g2⟩ := h.fam y b f hb hf
        exact ⟨ms, g1, by simp only [hputl]; exact g2⟩
      · exact h.fam y bb f hy hf
    · intro y bb hy
      rw [hget] at hy
      rw [hnf]
      split at hy
      · rename_i hh; subst hh; simp only [Option.some.injEq] at hy; subst hy; exact h.nfl y b hb
      · exact h.nfl y bb hy
    · intro y bb hy
      rw [hget] at hy
      rw [hnb]
      split at hy
      · rename_i hh; subst hh; exact h.lt y b hb
      · exact h.lt y bb hy
    · intro c hc' hnot
      exact setRow_other w cb c _ (fun e => hnot x sh z (by rw [e]; exact hx))
    · intro y cb' sh' z' hy; exact .inl ⟨y, sh', z', hy⟩
end Go.Ev
