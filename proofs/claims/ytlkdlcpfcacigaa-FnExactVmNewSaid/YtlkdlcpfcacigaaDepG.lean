/- A function is right just where the search comes to its end: plain laws. -/
import Derived.Test.YtlkdlcpfcacigaaMgDepD
namespace Go.Proofs.Ytlkdlcpfcacigaa
open Go.RowKit
set_option linter.unusedVariables false
set_option linter.unusedSimpArgs false

/-- places of a function, right by themselves: what follows lies within. -/
structure CodeOk (os : List O3) : Prop where
  pos : 0 < os.length
  len : os.length ≤ 3000
  fin : ∀ p : Nat, p < os.length → ∀ q ∈ fol (opT os p) p, 0 ≤ q ∧ q < os.length
/-- place p is come to with d values. -/
inductive Rch (os : List O3) : Int → Int → Prop
  | zero : Rch os 0 1
  | step {p d q : Int} : Rch os p d → aftB (opT os p) d = false → q ∈ fol (opT os p) p → Rch os q (aftN (opT os p) d)
/-- a function is right: what is come to is come to with one number of values, and goes on. -/
def goodC (os : List O3) : Prop := (∀ p d, Rch os p d → aftB (opT os p) d = false) ∧ ∀ p d d', Rch os p d → Rch os p d' → d = d'
theorem aftN_in {o : O3} {d : Int} (h : aftB o d = false) : 1 ≤ aftN o d ∧ aftN o d ≤ 60 := by
  unfold aftB at h
  simp only [Bool.or_eq_false_iff, decide_eq_false_iff_not] at h
  obtain ⟨⟨h1, _⟩, h3, _⟩ := h
  have : 0 ≤ putsOf o.c := by unfold putsOf; split; (· omega); split <;> omega
  unfold aftN
  omega
def unf (out : List Int) : Nat := (out.filter (fun x => decide (x < 0))).length
theorem unf_set : ∀ (out : List Int) (p : Nat) (d : Int), p < out.length → out.getD p 0 < 0 → 0 ≤ d → unf (out.set p d) + 1 = unf out := by
  intro out
  induction out with
  | nil => intro p d h; simp at h
  | cons x out ih =>
    intro p d h hx hd
    cases p with
    | zero =>
      have hx' : x < 0 := by simpa using hx
      show unf (d :: out) + 1 = unf (x :: out)
      unfold unf
      rw [List.filter_cons_of_neg (by simp; omega), List.filter_cons_of_pos (by simpa using hx'), List.length_cons]
    | succ p =>
      have := ih p d (by simpa using h) (by simpa using hx) hd
      show unf (x :: out.set p d) + 1 = unf (x :: out)
      unfold unf at this ⊢
      by_cases hh : x < 0
      · rw [List.filter_cons_of_pos (by simpa using hh), List.filter_cons_of_pos (by simpa using hh), List.length_cons, List.length_cons]
        omega
      · rw [List.filter_cons_of_neg (by simpa using hh), List.filter_cons_of_neg (by simpa using hh)]
        exact this
theorem getD_set_eq {out : List Int} {p : Nat} {d : Int} (h : p < out.length) : (out.set p d).getD p 0 = d := by
  rw [List.getD_eq_getElem?_getD, List.getElem?_set_self h]; rfl
theorem getD_set_ne {out : List Int} {p q : Nat} {d : Int} (h : p ≠ q) : (out.set p d).getD q 0 = out.getD q 0 := by
  rw [List.getD_eq_getElem?_getD, List.getElem?_set_ne h, List.getD_eq_getElem?_getD]

/-- how far the search is; of place ex what follows need not be found yet. -/
structure DInv (os : List O3) (ex : Int) (out todo : List Int) : Prop where
  len : out.length = os.length
  pos : ∀ p : Nat, p < out.length → 0 ≤ out.getD p 0 → Rch os p (out.getD p 0) ∧ 1 ≤ out.getD p 0 ∧ out.getD p 0 ≤ 60
  zero : out.getD 0 0 = 1
  tds : ∀ t ∈ todo, 0 ≤ t ∧ t < out.length ∧ 0 ≤ out.getD t.toNat 0
  done : ∀ p : Nat, p < out.length → 0 ≤ out.getD p 0 → (p : Int) ∈ todo ∨ (p : Int) = ex ∨ (aftB (opT os p) (out.getD p 0) = false ∧ ∀ q ∈ fol (opT os p) p, out.getD q.toNat 0 = aftN (opT os p) (out.getD p 0))
theorem dIn_inv {os : List O3} (hc : CodeOk os) {a : Nat} (hal : a < os.length) {d : Int} (ha : aftB (opT os a) d = false) (hr : Rch os a d) : ∀ (l out todo : List Int), (∀ q ∈ l, q ∈ fol (opT os a) a) → DInv os a out todo →
    (dIn (aftN (opT os a) d) l out todo = some none ∧ ¬ goodC os) ∨ ∃ out' todo', dIn (aftN (opT os a) d) l out todo = some (some (out', todo')) ∧ DInv os a out' todo' ∧ todo'.length + unf out' = todo.length + unf out ∧
      (∀ q ∈ l, out'.getD q.toNat 0 = aftN (opT os a) d) ∧ ∀ p : Nat, p < out.length → 0 ≤ out.getD p 0 → out'.getD p 0 = out.getD p 0 := by
  obtain ⟨n1, n2⟩ := aftN_in ha
  intro l
  induction l with
  | nil => intro out todo _ hi; exact .inr ⟨out, todo, rfl, hi, rfl, fun q hq => (by cases hq), fun p _ _ => rfl⟩
  | cons q l ih =>
    intro out todo hl hi
    have hqm := hl q (List.mem_cons_self ..)
    obtain ⟨q0, q1⟩ := hc.fin a hal q hqm
    have q1' : q < out.length := by rw [hi.len]; exact q1
    have hstep : Rch os q (aftN (opT os a) d) := Rch.step hr ha hqm
    obtain ⟨k, rfl⟩ : ∃ k : Nat, q = k := ⟨q.toNat, by omega⟩
    unfold dIn
    rw [if_pos ⟨q0, q1'⟩, Int.toNat_natCast]
    have hk : k < out.length := by omega
    by_cases hn : out.getD k 0 < 0
    · rw [if_pos hn]
      have hi' : DInv os a (out.set k (aftN (opT os a) d)) (todo ++ [(k : Int)]) := by
        refine ⟨by rw [List.length_set]; exact hi.len, fun p hp h0 => ?_, ?_, fun t ht => ?_, fun p hp h0 => ?_⟩
        · rw [List.length_set] at hp
          by_cases e : k = p
          · subst e
            rw [getD_set_eq hk]
            exact ⟨hstep, n1, n2⟩
          · rw [getD_set_ne e] at h0 ⊢
            exact hi.pos p hp h0
        · rw [getD_set_ne (fun e => by subst e; have := hi.zero; omega)]
          exact hi.zero
        · rcases List.mem_append.1 ht with ht | ht
          · obtain ⟨t0, t1, t2⟩ := hi.tds t ht
            rw [List.length_set, getD_set_ne (fun e => by subst e; omega)]
            exact ⟨t0, t1, t2⟩
          · rw [List.mem_singleton] at ht
            subst ht
            rw [List.length_set, Int.toNat_natCast, getD_set_eq hk]
            exact ⟨by omega, by omega, by omega⟩
        · rw [List.length_set] at hp
          by_cases e : k = p
          · subst e
            exact .inl (List.mem_append_right _ (List.mem_singleton.2 rfl))
          · rw [getD_set_ne e] at h0 ⊢
            rcases hi.done p hp h0 with h | h | ⟨h1, h2⟩
            · exact .inl (List.mem_append_left _ h)
            · exact .inr (.inl h)
            · refine .inr (.inr ⟨h1, fun r hr' => ?_⟩)
              have hv := h2 r hr'
              have := (aftN_in h1).1
              rw [getD_set_ne (fun e' => by rw [← e'] at hv; omega)]
              exact hv
      rcases ih _ _ (fun r hr' => hl r (List.mem_cons_of_mem _ hr')) hi' with ⟨h1, h2⟩ | ⟨o', t', h1, h2, h3, h4, h5⟩
      · exact .inl ⟨h1, h2⟩
      · refine .inr ⟨o', t', h1, h2, ?_, fun r hr' => ?_, fun p hp h0 => ?_⟩
        · have := unf_set out k (aftN (opT os a) d) hk hn (by omega)
          rw [h3, List.length_append, List.length_singleton]
          omega
        · rcases List.mem_cons.1 hr' with rfl | hr'
          · rw [Int.toNat_natCast, h5 k (by rw [List.length_set]; exact hk) (by rw [getD_set_eq hk]; omega), getD_set_eq hk]
          · exact h4 r hr'
        · have e : k ≠ p := fun e => by subst e; omega
          rw [h5 p (by rw [List.length_set]; exact hp) (by rw [getD_set_ne e]; exact h0), getD_set_ne e]
    · rw [if_neg hn]
      by_cases he : out.getD k 0 = aftN (opT os a) d
      · rw [if_pos he]
        rcases ih _ _ (fun r hr' => hl r (List.mem_cons_of_mem _ hr')) hi with ⟨h1, h2⟩ | ⟨o', t', h1, h2, h3, h4, h5⟩
        · exact .inl ⟨h1, h2⟩
        · refine .inr ⟨o', t', h1, h2, h3, fun r hr' => ?_, h5⟩
          rcases List.mem_cons.1 hr' with rfl | hr'
          · rw [Int.toNat_natCast, h5 k hk (by omega), he]
          · exact h4 r hr'
      · rw [if_neg he]
        exact .inl ⟨rfl, fun hg => he (hg.2 _ _ _ (hi.pos k hk (by omega)).1 hstep)⟩
theorem topT_mem {todo : List Int} (h : todo.length ≠ 0) : topT todo ∈ todo := by
  unfold topT
  rw [List.getD_eq_getElem?_getD, List.getElem?_eq_getElem (by omega)]
  exact List.getElem_mem _
theorem drop_last {todo : List Int} (h : todo.length ≠ 0) : todo = todo.dropLast ++ [topT todo] := by
  have hne : todo ≠ [] := fun e => by subst e; exact h rfl
  conv => lhs; rw [← List.dropLast_concat_getLast hne]
  unfold topT
  rw [List.getLast_eq_getElem, List.getD_eq_getElem?_getD, List.getElem?_eq_getElem (by omega)]
  rfl
theorem dRun_inv {os : List O3} (hc : CodeOk os) {fl : O3 → Int → List Int} (hfl : ∀ o p q, q ∈ fl o p ↔ q ∈ fol o p) : ∀ (f : Nat) (out todo : List Int), DInv os (-1) out todo → todo.length + unf out < f → todo.length + unf out ≤ 100000 →
    (dRun fl os f out todo = some none ∧ ¬ goodC os) ∨ ∃ r, dRun fl os f out todo = some (some r) ∧ DInv os (-1) r [] := by
  intro f
  induction f with
  | zero => intro out todo _ h; omega
  | succ f ih =>
    intro out todo hi hf hM
    unfold dRun
    by_cases h0 : todo.length = 0
    · rw [if_pos h0]
      have : todo = [] := List.eq_nil_of_length_eq_zero h0
      subst this
      exact .inr ⟨out, rfl, hi⟩
    · rw [if_neg h0]
      obtain ⟨t0, t1, t2⟩ := hi.tds _ (topT_mem h0)
      obtain ⟨a, ha⟩ : ∃ a : Nat, topT todo = a := ⟨(topT todo).toNat, by omega⟩
      rw [ha] at t1 t2
      rw [Int.toNat_natCast] at t2
      have hal : a < out.length := by omega
      obtain ⟨p1, p2, p3⟩ := hi.pos a hal t2
      have hok : dOk os out todo = true := by
        unfold dOk
        rw [ha, Int.toNat_natCast]
        have := hi.len
        have := hc.len
        simp only [Bool.and_eq_true, decide_eq_true_eq]
        exact ⟨⟨⟨by omega, by omega⟩, by omega⟩, ⟨by omega, by omega⟩, by omega, by omega⟩
      rw [if_pos hok, ha, Int.toNat_natCast]
      cases hb : aftB (opT os a) (out.getD a 0)
      · rw [if_neg (by simp)]
        have hal' : a < os.length := by rw [← hi.len]; exact hal
        have hi' : DInv os a out todo.dropLast := by
          refine ⟨hi.len, hi.pos, hi.zero, fun t ht => hi.tds t (List.dropLast_subset _ ht), fun p hp hh => ?_⟩
          rcases hi.done p hp hh with h | h | h
          · rw [drop_last h0, List.mem_append, List.mem_singleton, ha] at h
            rcases h with h | h
            · exact .inl h
            · exact .inr (.inl h)
          · omega
          · exact .inr (.inr h)
        have hdl : todo.dropLast.length + 1 = todo.length := by rw [List.length_dropLast]; omega
        rcases dIn_inv hc hal' hb p1 (fl (opT os a) a) out todo.dropLast (fun q hq => (hfl _ _ _).1 hq) hi' with ⟨h1, h2⟩ | ⟨o', t', h1, h2, h3, h4, h5⟩
        · rw [h1]
          exact .inl ⟨rfl, h2⟩
        · rw [h1]
          dsimp only
          refine ih o' t' ⟨h2.len, h2.pos, h2.zero, h2.tds, fun p hp hh => ?_⟩ (by omega) (by omega)
          rcases h2.done p hp hh with h | h | h
          · exact .inl h
          · have e : p = a := by omega
            subst e
            refine .inr (.inr ?_)
            rw [h5 p hal t2]
            exact ⟨hb, fun q hq => h4 q ((hfl _ _ _).2 hq)⟩
          · exact .inr (.inr h)
      · rw [if_pos rfl]
        exact .inl ⟨rfl, fun hg => by have := hg.1 _ _ p1; rw [hb] at this; cases this⟩
theorem dRun_good {os : List O3} (hc : CodeOk os) {r : List Int} (h : DInv os (-1) r []) : goodC os := by
  have key : ∀ p d, Rch os p d → ∃ k : Nat, p = k ∧ k < r.length ∧ r.getD k 0 = d ∧ 0 ≤ d := by
    intro p d hr
    induction hr with
    | zero => exact ⟨0, rfl, by rw [h.len]; exact hc.pos, h.zero, by decide⟩
    | step hr ha hq ih =>
      obtain ⟨k, rfl, hk, hd, hd0⟩ := ih
      obtain ⟨q0, q1⟩ := hc.fin k (by rw [← h.len]; exact hk) _ hq
      rcases h.done k hk (by rw [hd]; exact hd0) with e | e | ⟨e1, e2⟩
      · cases e
      · omega
      · refine ⟨_, (Int.toNat_of_nonneg q0).symm, by rw [h.len]; omega, ?_, by have := (aftN_in ha).1; omega⟩
        rw [e2 _ hq, hd]
  refine ⟨fun p d hr => ?_, fun p d d' h1 h2 => ?_⟩
  · obtain ⟨k, rfl, hk, hd, hd0⟩ := key p d hr
    rcases h.done k hk (by rw [hd]; exact hd0) with e | e | ⟨e1, e2⟩
    · cases e
    · omega
    · rw [hd] at e1; exact e1
  · obtain ⟨k, rfl, hk, hd, _⟩ := key p d h1
    obtain ⟨k', e, hk', hd', _⟩ := key _ d' h2
    have : k = k' := by omega
    subst this
    exact hd.symm.trans hd'
theorem dFirst_inv {os : List O3} (hc : CodeOk os) : DInv os (-1) (dFirst os) [0] ∧ ([0] : List Int).length + unf (dFirst os) ≤ os.length := by
  have hp := hc.pos
  have hl : (List.replicate os.length (-1 : Int)).length = os.length := List.length_replicate
  have g0 : (dFirst os).getD 0 0 = 1 := getD_set_eq (by rw [hl]; exact hp)
  have gn : ∀ p : Nat, p ≠ 0 → p < os.length → (dFirst os).getD p 0 = -1 := fun p h0 h1 => by
    unfold dFirst
    rw [getD_set_ne (Ne.symm h0), List.getD_eq_getElem?_getD, List.getElem?_replicate, if_pos h1]; rfl
  have hlen : (dFirst os).length = os.length := by unfold dFirst; rw [List.length_set, hl]
  refine ⟨⟨hlen, fun p hp' h0 => ?_, g0, fun t ht => ?_, fun p hp' h0 => ?_⟩, ?_⟩
  · by_cases e : p = 0
    · subst e; rw [g0]; exact ⟨Rch.zero, by decide, by decide⟩
    · rw [gn p e (by omega)] at h0; omega
  · rw [List.mem_singleton] at ht
    subst ht
    exact ⟨by decide, by rw [hlen]; omega, by show 0 ≤ (dFirst os).getD 0 0; rw [g0]; decide⟩
  · by_cases e : p = 0
    · subst e; exact .inl (by simp)
    · rw [gn p e (by omega)] at h0; omega
  · have h1 := unf_set (List.replicate os.length (-1)) 0 1 (by rw [hl]; exact hp) (by rw [List.getD_eq_getElem?_getD, List.getElem?_replicate, if_pos hp]; decide) (by decide)
    have h2 : unf (List.replicate os.length (-1)) ≤ os.length := by
      unfold unf
      have := List.length_filter_le (fun x => decide (x < 0)) (List.replicate os.length (-1 : Int))
      rw [hl] at this
      exact this
    show 1 + unf ((List.replicate os.length (-1)).set 0 1) ≤ os.length
    omega
/-- the search comes to its end, and tells whether the function is right. -/
theorem dRun_all {os : List O3} (hc : CodeOk os) {fl : O3 → Int → List Int} (hfl : ∀ o p q, q ∈ fl o p ↔ q ∈ fol o p) :
    (dRun fl os (os.length + 1) (dFirst os) [0] = some none ∧ ¬ goodC os) ∨ ∃ r, dRun fl os (os.length + 1) (dFirst os) [0] = some (some r) ∧ goodC os := by
  obtain ⟨h1, h2⟩ := dFirst_inv hc
  rcases dRun_inv hc hfl (os.length + 1) _ _ h1 (by omega) (by have := hc.len; omega) with h | ⟨r, h, hr⟩
  · exact .inl h
  · exact .inr ⟨r, h, dRun_good hc hr⟩

end Go.Proofs.Ytlkdlcpfcacigaa
