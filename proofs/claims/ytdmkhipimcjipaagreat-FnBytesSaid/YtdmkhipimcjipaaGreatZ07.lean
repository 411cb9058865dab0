/- Parts of the proof of FnBytes. -/
import Derived.Test.YtdmkhipimcjipaaGreatZ06
set_option linter.unusedVariables false
set_option linter.unusedSimpArgs false
set_option linter.unusedVariables false
set_option linter.unusedSimpArgs false
set_option maxRecDepth 20000
namespace Go.Ev
open Go
def KB.bk (b : KB) : Bk := ⟨b.r.reverse, b.fam, b.d⟩
structure RS (s : KS) (u : St) : Prop where
  nb : u.nb = s.nb
  nf : u.nf = s.nf
  fm : u.fm = s.fm
  h : ∀ x, u.h.get x = (getK s x).map KB.bk
  n : ∀ x b, getK s x = some b → b.n = b.r.length
noncomputable def blkW (x : Nat) : Ln HK (Option KB) := Ln.comp (lens (Tw (Option KB) 3) 3 (x % 512)) (lens (Option KB) 3 (x / 512))
theorem blk_ok {x : Nat} (h : x ≤ 262143) : blkL x = ⟨(blkW x).g, blM (blkW x).u⟩ := by
  unfold blkL
  rw [Nat.ble_eq_true_of_le h]
  show (Ln.rec (motive := fun _ => Bl) (fun g u => ⟨g, blM u⟩) (blkW x) : Bl) = _
  cases blkW x; rfl
theorem blk_bad {x : Nat} (h : ¬ x ≤ 262143) : blkL x = ⟨fun _ => none, fun _ _ _ => false⟩ := by
  unfold blkL; rw [ble_f h]; rfl
theorem blkW_ok (x : Nat) : (blkW x).Ok := Ln.comp_ok (lens_ok _ _ _) (lens_ok _ _ _)
theorem blkW_dis {x y : Nat} (hx : x ≤ 262143) (hy : y ≤ 262143) (h : y ≠ x) (t : HK) (b : Option KB) : (blkW y).g ((blkW x).u t b) = (blkW y).g t := by
  have cg : ∀ t : HK, (blkW y).g t = (lens (Option KB) 3 (y / 512)).g ((lens (Tw (Option KB) 3) 3 (y % 512)).g t) := fun t => Ln.comp_g _ _ t
  have cu : (blkW x).u t b = (lens (Tw (Option KB) 3) 3 (x % 512)).u t ((lens (Option KB) 3 (x / 512)).u ((lens (Tw (Option KB) 3) 3 (x % 512)).g t) b) := Ln.comp_u _ _ t b
  rw [cg, cg, cu]
  by_cases hm : y % 512 = x % 512
  · rw [hm, lens_ok]
    exact lens_dis (Option KB) 3 _ _ (by show x / 512 < 512; omega) (by show y / 512 < 512; omega) (by omega) _ _
  · rw [lens_dis (Tw (Option KB) 3) 3 _ _ (by show x % 512 < 512; omega) (by show y % 512 < 512; omega) hm]
theorem blk_put {x : Nat} {b : Option KB} {h : HK} {k : HK → Bool} (hk : (blkL x).m b h k = true) : ∃ h', k h' = true ∧ ∀ y, (blkL y).g h' = if y = x then b else (blkL y).g h := by
  by_cases h1 : x ≤ 262143
  · rw [blk_ok h1] at hk
    refine ⟨(blkW x).u h b, hk, fun y => ?_⟩
    by_cases hy : y = x
    · subst hy; rw [if_pos rfl, blk_ok h1]; exact blkW_ok y _ _
    · rw [if_neg hy]
      by_cases hy1 : y ≤ 262143
      · rw [blk_ok hy1]; exact blkW_dis h1 hy1 hy _ _
      · rw [blk_bad hy1]
  · rw [blk_bad h1] at hk; cases hk
theorem set_some {s : KS} {x : Nat} {b : Option KB} {k : KS → Bool} (h : setK s x b k = true) :
    ∃ s', k s' = true ∧ s'.nb = s.nb ∧ s'.nf = s.nf ∧ s'.fm = s.fm ∧ ∀ y, getK s' y = if y = x then b else getK s y := by
  cases s with
  | mk hh nb fm nf =>
    obtain ⟨h', h1, h2⟩ := blk_put (k := fun h => k ⟨h, nb, fm, nf⟩) h
    exact ⟨_, h1, rfl, rfl, rfl, h2⟩
theorem RS.set {s : KS} {u : St} (r : RS s u) {x : Nat} {b : Option KB} (hb : ∀ c, b = some c → c.n = c.r.length) {k : KS → Bool} (h : setK s x b k = true) :
    ∃ s', k s' = true ∧ RS s' { u with h := T.upd (b.map KB.bk) u.h x } ∧ s'.nb = s.nb := by
  obtain ⟨s', h1, h2, h3, h4, h5⟩ := set_some h
  refine ⟨s', h1, ⟨by rw [h2]; exact r.nb, by rw [h3]; exact r.nf, by rw [h4]; exact r.fm, fun y => ?_, fun y c hc => ?_⟩, h2⟩
  · show (T.upd (b.map KB.bk) u.h x).get y = _
    rw [T.get_upd, h5]
    by_cases hy : y = x
    · rw [if_pos hy, if_pos hy]
    · rw [if_neg hy, if_neg hy]; exact r.h y
  · rw [h5] at hc
    by_cases hy : y = x
    · rw [if_pos hy] at hc; exact hb c hc
    · rw [if_neg hy] at hc; exact r.n y c hc
theorem RS.allocB {s : KS} {u : St} (r : RS s u) {b : KB} (hb : b.n = b.r.length) {k : KS → Bool} (h : allocK s b k = true) :
    ∃ s', k s' = true ∧ RS s' { u with h := T.upd (some b.bk) u.h u.nb, nb := Nat.succ u.nb } := by
  cases s with
  | mk hh nb fm nf =>
    obtain ⟨h', h1, h2⟩ := blk_put (k := fun h => force (Nat.succ nb) fun nb => k ⟨h, nb, fm, nf⟩) h
    have h1' : k ⟨h', Nat.succ nb, fm, nf⟩ = true := h1
    have e : u.nb = nb := r.nb
    refine ⟨_, h1', ⟨by show Nat.succ u.nb = _; rw [e], r.nf, r.fm, fun y => ?_, fun y c hc => ?_⟩⟩
    · show (T.upd (some b.bk) u.h u.nb).get y = ((blkL y).g h').map KB.bk
      rw [T.get_upd, h2, e]
      by_cases hy : y = nb
      · rw [if_pos hy, if_pos hy]; rfl
      · rw [if_neg hy, if_neg hy]; exact r.h y
    · have hc' : (blkL y).g h' = some c := hc
      rw [h2] at hc'
      by_cases hy : y = nb
      · rw [if_pos hy] at hc'; simp only [Option.some.injEq] at hc'; exact hc' ▸ hb
      · rw [if_neg hy] at hc'; exact r.n y c hc'
theorem revA_eq : ∀ (l a : List S), revA l a = l.reverse ++ a
  | [], a => rfl
  | x :: l, a => by show revA l (x :: a) = _; rw [revA_eq l]; simp
theorem revT_eq : ∀ (l : List S) (m : Nat) (a : List S), revT l m a = (l.take m).reverse ++ a
  | [], m, a => by simp [revT]
  | x :: l, m, a => by
    show Bool.rec (motive := fun _ => List S) (revT l (m - 1) (x :: a)) a (Nat.beq m 0) = _
    cases m with
    | zero => rfl
    | succ m => show revT l m (x :: a) = _; rw [revT_eq l]; simp
theorem mkB_bk (l : List S) (f d : Nat) : (mkB l f d).bk = ⟨l, f, d⟩ := by simp [mkB, KB.bk, revA_eq]
theorem mkB_n (l : List S) (f d : Nat) : (mkB l f d).n = (mkB l f d).r.length := by simp [mkB, revA_eq, llen_eq]
theorem RS.alloc {s : KS} {u : St} (r : RS s u) {l : List S} {k : KS → Bool} (h : allocK s (mkB l 0 0) k = true) : ∃ s', k s' = true ∧ RS s' (Ev.alloc u l) := by
  obtain ⟨s', h1, h2⟩ := r.allocB (mkB_n l 0 0) h
  rw [mkB_bk] at h2
  exact ⟨s', h1, h2⟩
theorem dropN_eq {α : Type} (l : List α) : ∀ n, dropN l n = l.drop n
  | 0 => rfl
  | n + 1 => by
    show tailL (dropN l n) = _
    rw [dropN_eq l n]
    have : ∀ m : List α, tailL m = m.drop 1 := fun m => by cases m <;> rfl
    rw [this, List.drop_drop]
theorem atK_some {α : Type} {l : List α} {n : Nat} {k : α → Bool} (h : atK l n k = true) : ∃ x, l[n]? = some x ∧ k x = true := by
  unfold atK at h
  rw [dropN_eq] at h
  cases hd : l.drop n with
  | nil => rw [hd] at h; cases h
  | cons x t =>
    rw [hd] at h
    refine ⟨x, ?_, h⟩
    have := congrArg (fun l => l[0]?) hd
    simpa using this
theorem cellsB_some {b : KB} (hn : b.n = b.r.length) {o n : Nat} {l : List S} (h : cellsB b o n = some l) : Nat.ble (Nat.add o n) (llen b.bk.c) = true ∧ l = ltake (ldrop b.bk.c o) n := by
  unfold cellsB at h
  obtain ⟨h1, h2⟩ := cond_some h
  have h1' : o + n ≤ b.r.length := hn ▸ Nat.le_of_ble_eq_true h1
  have h2 : some (revT (dropN b.r (b.n - (o + n))) n []) = some l := h2
  simp only [Option.some.injEq] at h2
  refine ⟨by rw [llen_eq]; simp only [KB.bk, List.length_reverse]; exact Nat.ble_eq_true_of_le h1', ?_⟩
  rw [← h2, revT_eq, ltake_eq, dropN_eq, ldrop_eq]
  show (List.take n (List.drop (b.n - (o + n)) b.r)).reverse ++ [] = List.take n (List.drop o b.r.reverse)
  rw [hn, List.append_nil]
  apply List.ext_getElem?
  intro i
  rw [List.getElem?_take]
  by_cases hi : i < n
  · rw [if_pos hi, List.getElem?_reverse (by simp; omega), List.getElem?_take, if_pos (by simp; omega), List.getElem?_drop, List.getElem?_drop, List.getElem?_reverse (by omega)]
    congr 1
    simp
    omega
  · rw [if_neg hi, List.getElem?_eq_none (by simp; omega)]
theorem RS.cells {s : KS} {u : St} (r : RS s u) {x o n : Nat} {l : List S} (h : cellsK s x o n = some l) : cellsAt u x o n = some l := by
  unfold cellsK at h
  split at h
  · rename_i b hb
    unfold cellsAt
    rw [r.h x, hb]
    obtain ⟨h1, h2⟩ := cellsB_some (r.n x b hb) h
    simp only [Option.map_some, h1, cond_true, h2]
  · cases h
theorem lget_rev {l : List S} {o n : Nat} (hn : n = l.length) (ho : o + 1 ≤ n) : l[n - (o + 1)]? = lget l.reverse o := by
  rw [lget_eq, List.getElem?_reverse (by omega)]
  congr 1
  omega
theorem RS.ldv {s : KS} {u : St} (r : RS s u) {n : Option Nat} {p : S} {v : V} (h : ldvK s n p = some v) : Ev.ldv u n p = some v := by
  cases p with
  | p x o =>
    cases n with
    | none =>
      have h' : (match cellsK s x o 1 with | some (v :: _) => some (V.c v) | _ => none) = some v := h
      split at h'
      · rename_i c t hc
        simp only [Option.some.injEq] at h'
        subst h'
        have h2 := r.cells hc
        show (match u.h.get x with | some b => (match lget b.c o with | some v => some (V.c v) | none => none) | none => none) = _
        unfold cellsAt at h2
        split at h2
        · rename_i b hb
          obtain ⟨h3, h4⟩ := cond_some h2
          simp only [Option.some.injEq, ltake_eq, ldrop_eq] at h4
          have : b.c[o]? = some c := by
            have := congrArg (fun l => l[0]?) h4
            simpa using this
          simp only [hb, lget_eq, this]
        · cases h2
      · cases h'
    | some n =>
      have h' : (match cellsK s x o n with | some l => some (V.a l) | none => none) = some v := h
      split at h'
      · rename_i l hl
        show (match cellsAt u x o n with | some l => some (V.a l) | none => none) = some v
        rw [r.cells hl]; exact h'
      · cases h'
  | _ => cases h
theorem RS.rv {s : KS} {u : St} (r : RS s u) {t : E} {o : R} {v : V} (h : rvK (ov t) s o = some v) : Ev.rv t u o = some v := by
  cases o with
  | ld n a => exact r.ldv h
  | bts x =>
    have h' : (match os t x with
      | .l0 => some (V.c (.s []))
      | .l x o n sz _ => bif Nat.beq sz 1 then (match cellsK s x o n with
        | some l => match bytesIn l with | some b => some (.c (.s b)) | none => none
        | none => none) else none
      | _ => none) = some v := h
    show (match os t x with
      | .l0 => some (V.c (.s []))
      | .l x o n sz _ => bif Nat.beq sz 1 then (match cellsAt u x o n with
        | some l => match bytesIn l with | some b => some (.c (.s b)) | none => none
        | none => none) else none
      | _ => none) = some v
    split at h'
    · rename_i hx; exact h'
    · rename_i x o n sz fl hx
      obtain ⟨h1, h2⟩ := cond_some h'
      simp only [h1, cond_true]
      split at h2
      · rename_i l hl
        rw [r.cells hl]; exact h2
      · cases h2
    · cases h'
theorem putB_bk {b : KB} (hn : b.n = b.r.length) {o n : Nat} {l : List S} (hl : l.length = n) (ho : o + n ≤ b.n) : (putB b o n l).bk = ⟨lput b.bk.c l o, b.fam, b.d⟩ ∧ (putB b o n l).n = (putB b o n l).r.length := by
  have e1 : (putB b o n l).r = lput b.r l.reverse (b.n - (o + n)) := by simp [putB, revA_eq]
  constructor
  · show (⟨(putB b o n l).r.reverse, b.fam, b.d⟩ : Bk) = _
    congr 1
    rw [e1, lput_eq, lput_eq]
    show _ = List.take o b.r.reverse ++ (l ++ List.drop (o + l.length) b.r.reverse)
    apply List.ext_getElem?
    intro i
    have hlen : (List.take (b.n - (o + n)) b.r ++ (l.reverse ++ List.drop (b.n - (o + n) + l.reverse.length) b.r)).length = b.r.length := by simp; omega
    by_cases hi : i < b.r.length
    · rw [List.getElem?_reverse (by rw [hlen]; exact hi), hlen]
      simp only [List.getElem?_append, List.length_take, List.length_reverse, List.getElem?_take, List.getElem?_drop]
      by_cases h1 : i < o
      · rw [if_neg (by omega), if_neg (by omega), if_pos (by omega), if_pos (by omega), List.getElem?_reverse (by omega)]
        congr 1; omega
      · by_cases h2 : i < o + n
        · rw [if_neg (by omega), if_pos (by omega), if_neg (by omega), if_pos (by omega), List.getElem?_reverse (by omega)]
          congr 1; omega
        · rw [if_pos (by omega), if_pos (by omega), if_neg (by omega), if_neg (by omega), List.getElem?_reverse (by omega)]
          congr 1; omega
    · rw [List.getElem?_eq_none (by rw [List.length_reverse, hlen]; omega), List.getElem?_eq_none (by simp; omega)]
  · show b.n = _
    rw [e1, lput_eq]
    simp; omega
theorem kill_self (x lo hi : Nat) (h : T Bk) : ∀ ms, (kill x lo hi h ms).1.get x = h.get x
  | [] => rfl
  | m :: ms => by
    have ih := kill_self x lo hi h ms
    show (bif Nat.beq m.1 x then ((kill x lo hi h ms).1, m :: (kill x lo hi h ms).2)
      else bif Nat.ble (Nat.succ m.2.1) hi && Nat.ble (Nat.succ lo) (Nat.add m.2.1 m.2.2) then (T.upd none (kill x lo hi h ms).1 m.1, (kill x lo hi h ms).2)
      else ((kill x lo hi h ms).1, m :: (kill x lo hi h ms).2)).1.get x = _
    cases hb : Nat.beq m.1 x with
    | true => exact ih
    | false =>
      cases (Nat.ble (Nat.succ m.2.1) hi && Nat.ble (Nat.succ lo) (Nat.add m.2.1 m.2.2)) with
      | false => exact ih
      | true =>
        show (T.upd none (kill x lo hi h ms).1 m.1).get x = _
        rw [T.get_upd, if_neg (by intro e; rw [e] at hb; simp at hb)]
        exact ih
theorem RS.kill {x lo hi : Nat} {s : KS} {u : St} (r : RS s u) : ∀ {ms : List (Nat × Nat × Nat)} {k : KS → List (Nat × Nat × Nat) → Bool}, killK x lo hi s ms k = true →
    ∃ s', k s' (Ev.kill x lo hi u.h ms).2 = true ∧ RS s' { u with h := (Ev.kill x lo hi u.h ms).1 } ∧ s'.nb = s.nb
  | [], k, h => ⟨s, h, r, rfl⟩
  | m :: ms, k, h => by
    obtain ⟨s', h1, h2, h3⟩ := RS.kill r (ms := ms) (k := fun s l =>
      Bool.rec (Bool.rec (k s (m :: l)) (setK s m.1 none fun s => k s l) (Nat.ble (Nat.succ m.2.1) hi && Nat.ble (Nat.succ lo) (Nat.add m.2.1 m.2.2))) (k s (m :: l)) (Nat.beq m.1 x)) h
    have e : Ev.kill x lo hi u.h (m :: ms) = (bif Nat.beq m.1 x then ((Ev.kill x lo hi u.h ms).1, m :: (Ev.kill x lo hi u.h ms).2)
      else bif Nat.ble (Nat.succ m.2.1) hi && Nat.ble (Nat.succ lo) (Nat.add m.2.1 m.2.2) then (T.upd none (Ev.kill x lo hi u.h ms).1 m.1, (Ev.kill x lo hi u.h ms).2)
      else ((Ev.kill x lo hi u.h ms).1, m :: (Ev.kill x lo hi u.h ms).2)) := rfl
    cases hb : Nat.beq m.1 x with
    | true =>
      rw [hb] at h1 e
      simp only [cond_true] at e
      rw [e]
      exact ⟨s', h1, h2, h3⟩
    | false =>
      rw [hb] at h1 e
      simp only [cond_false] at e
      cases hc : (Nat.ble (Nat.succ m.2.1) hi && Nat.ble (Nat.succ lo) (Nat.add m.2.1 m.2.2)) with
      | false =>
        rw [hc] at h1 e
        simp only [cond_false] at e
        rw [e]
        exact ⟨s', h1, h2, h3⟩
      | true =>
        rw [hc] at h1 e
        simp only [cond_true] at e
        rw [e]
        obtain ⟨s'', k1, k2, k3⟩ := h2.set (b := none) (fun c hc => by cases hc) h1
        exact ⟨s'', k1, k2, k3.trans h3⟩
theorem RS.prep {s : KS} {u : St} (r : RS s u) {x o n : Nat} {b : KB} (hb : getK s x = some b) (hle : Nat.ble (Nat.add o n) b.n = true) {k : KS → Bool} (h : prepK s b x o n k = true) :
    ∃ s' u', Ev.prep u x o n = some u' ∧ RS s' u' ∧ k s' = true ∧ s'.nb = s.nb ∧ getK s' x = some b := by
  have hn := r.n x b hb
  have e1 : u.h.get x = some b.bk := by rw [r.h x, hb]; rfl
  have e2 : Nat.ble (Nat.add o n) (llen b.bk.c) = true := by rw [llen_eq]; simp only [KB.bk, List.length_reverse]; rw [← hn]; exact hle
  cases b with
  | mk br bn bf bd =>
    cases bf with
    | zero =>
      have h' : k s = true := h
      have e1' : u.h.get x = some ⟨br.reverse, 0, bd⟩ := e1
      have e2' : Nat.ble (Nat.add o n) (llen br.reverse) = true := e2
      refine ⟨s, u, ?_, r, h', rfl, hb⟩
      unfold Ev.prep
      simp only [e1', e2', cond_true]
    | succ f =>
      have h' : (match s.fm.get f with
        | none => false
        | some ms => killK x (Nat.add bd o) (Nat.add (Nat.add bd o) n) s ms fun s l => k (fmK s f (some l))) = true := h
      split at h'
      · cases h'
      · rename_i ms hms
        obtain ⟨s', h1, h2, h3⟩ := r.kill h'
        have e1' : u.h.get x = some ⟨br.reverse, f + 1, bd⟩ := e1
        have e2' : Nat.ble (Nat.add o n) (llen br.reverse) = true := e2
        have hms' : u.fm.get f = some ms := by rw [r.fm]; exact hms
        refine ⟨fmK s' f (some (Ev.kill x (Nat.add bd o) (Nat.add (Nat.add bd o) n) u.h ms).2),
          { u with h := (Ev.kill x (Nat.add bd o) (Nat.add (Nat.add bd o) n) u.h ms).1, fm := T.upd (some (Ev.kill x (Nat.add bd o) (Nat.add (Nat.add bd o) n) u.h ms).2) u.fm f }, ?_, ?_, h1, h3, ?_⟩
        · unfold Ev.prep
          simp only [e1', e2', cond_true, hms']
        · have hf : u.fm = s'.fm := h2.fm
          exact ⟨h2.nb, h2.nf, by unfold fmK; simp only [hf], h2.h, h2.n⟩
        · have q1 : (getK s' x).map KB.bk = some (KB.bk ⟨br, bn, Nat.succ f, bd⟩) := by
            rw [← h2.h x]
            show (Ev.kill x (Nat.add bd o) (Nat.add (Nat.add bd o) n) u.h ms).1.get x = _
            rw [kill_self]; exact e1
          show getK s' x = _
          cases hg : getK s' x with
          | none => rw [hg] at q1; cases q1
          | some c =>
            rw [hg] at q1
            have hcn := h2.n x c hg
            simp only [Option.map_some, Option.some.injEq, KB.bk, Bk.mk.injEq, List.reverse_inj] at q1
            cases c with
            | mk cr cn cf cd =>
              obtain ⟨q1, q2, q3⟩ := q1
              simp only at q1 q2 q3 hcn hn
              subst q1 q2 q3
              rw [hcn, hn]
theorem RS.store {s : KS} {u : St} (r : RS s u) {x o n : Nat} {l : List S} {k : KS → Bool} (h : storeK s x o n l k = true) :
    ∃ s' u', Ev.store u x o n l = some u' ∧ RS s' u' ∧ k s' = true := by
  unfold storeK at h
  split at h
  · cases h
  · rename_i b hb
    cases hc : (Nat.beq (llen l) n && Nat.ble (Nat.add o n) b.n) with
    | false => rw [hc] at h; cases h
    | true =>
      rw [hc] at h
      have h : prepK s b x o n (fun s => KB.rec (motive := fun _ => Bool) (fun r m fam d => setK s x (some ⟨lput r (revA l []) (Nat.sub m (Nat.add o n)), m, fam, d⟩) k) b) = true := h
      obtain ⟨c1, c2⟩ := (Bool.and_eq_true _ _).mp hc
      obtain ⟨s', u', h1, h2, h3, h4, h5⟩ := r.prep hb c2 h
      have hl : l.length = n := by rw [← llen_eq]; exact Nat.eq_of_beq_eq_true c1
      obtain ⟨p1, p2⟩ := putB_bk (r.n x b hb) hl (Nat.le_of_ble_eq_true c2)
      have h3 : setK s' x (some (putB b o n l)) k = true := by cases b; exact h3
      obtain ⟨s'', k1, k2, k3⟩ := h2.set (fun c hc => by simp only [Option.some.injEq] at hc; exact hc ▸ p2) h3
      refine ⟨s'', _, ?_, k2, k1⟩
      unfold Ev.store
      simp only [c1, cond_true, h1]
      unfold Ev.setc
      rw [h2.h x, h5]
      simp only [Option.map_some, p1]
      rfl
theorem lset_lput {l : List S} {c : S} {k : Nat} (h : k < l.length) : lset l c k = lput l [c] k := by
  rw [lset_eq, lput_eq]
  apply List.ext_getElem?
  intro i
  rw [List.getElem?_set]
  simp only [List.getElem?_append, List.length_take, List.getElem?_take, List.getElem?_drop, List.length_singleton]
  by_cases h1 : k = i
  · subst h1
    rw [if_pos rfl, if_pos h, if_neg (by omega), if_pos (by omega)]
    rw [show k - min k l.length = 0 by omega]; rfl
  · rw [if_neg h1]
    by_cases h2 : i < k
    · rw [if_pos (by omega), if_pos h2]
    · rw [if_neg (by omega), if_neg (by omega)]
      congr 1; omega
theorem RS.store1 {s : KS} {u : St} (r : RS s u) {x o : Nat} {c : S} {k : KS → Bool} {b : KB} (hb : getK s x = some b) (hle : Nat.ble (Nat.succ o) b.n = true)
    (h : prepK s b x o 1 (fun s => KB.rec (motive := fun _ => Bool) (fun r m fam d' => setK s x (some ⟨lset r c (Nat.sub m (Nat.succ o)), m, fam, d'⟩) k) b) = true) :
    ∃ s' u', Ev.store u x o 1 [c] = some u' ∧ RS s' u' ∧ k s' = true := by
  have hlt : o + 1 ≤ b.n := Nat.le_of_ble_eq_true hle
  have hn := r.n x b hb
  refine r.store (n := 1) (l := [c]) ?_
  unfold storeK
  rw [hb]
  show (bif Nat.beq (llen [c]) 1 && Nat.ble (Nat.add o 1) b.n then prepK s b x o 1 (fun s =>
      KB.rec (motive := fun _ => Bool) (fun r m fam d => setK s x (some ⟨lput r (revA [c] []) (Nat.sub m (Nat.add o 1)), m, fam, d⟩) k) b) else false) = true
  rw [show Nat.ble (Nat.add o 1) b.n = true from hle]
  cases b with
  | mk br bn bf bd =>
    have hlt' : o + 1 ≤ bn := hlt
    have hn' : bn = br.length := hn
    have e : lset br c (Nat.sub bn (Nat.succ o)) = lput br [c] (bn - (o + 1)) := by
      rw [show lset br c (Nat.sub bn (Nat.succ o)) = lset br c (bn - (o + 1)) from rfl, lset_lput (by omega)]
    have h' : prepK s ⟨br, bn, bf, bd⟩ x o 1 (fun s => setK s x (some ⟨lset br c (Nat.sub bn (Nat.succ o)), bn, bf, bd⟩) k) = true := h
    rw [e] at h'
    exact h'
end Go.Ev
