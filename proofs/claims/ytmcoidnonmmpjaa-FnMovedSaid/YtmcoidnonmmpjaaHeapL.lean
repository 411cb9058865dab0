/- What is allocated is there: the plain law. Nothing of the program is named here. -/
import Derived.Test.YtmcoidnonmmpjaaCollP
import Derived.Test.YtmcoidnonmmpjaaHeapNew
namespace Go.Proofs.Ytmcoidnonmmpjaa
open Go.RowKit
set_option linter.unusedVariables false

theorem ov_low {ws : List Int} {p j : Nat} {ks : List Int} (h : j < p) (hp : p ≤ ws.length) : (ov ws p ks).getD j 0 = ws.getD j 0 := by
  unfold ov
  rw [List.getD_eq_getElem?_getD, List.getElem?_append_left (by simp; omega), List.getElem?_take, if_pos h, List.getD_eq_getElem?_getD]
theorem ov_at {ws : List Int} {p j : Nat} {ks : List Int} (h : j < ks.length) (hp : p ≤ ws.length) : (ov ws p ks).getD (p + j) 0 = ks.getD j 0 := by
  have hl : (ws.take p).length = p := by simp; omega
  unfold ov
  rw [List.getD_eq_getElem?_getD, List.getElem?_append_right (by omega), hl, List.getElem?_append_left (by omega), List.getD_eq_getElem?_getD]
  congr 2
  omega
theorem places_snoc {ws ws' : List Int} {nx nx' : Nat} (hlow : ∀ j, j < nx → ws'.getD j 0 = ws.getD j 0) (hh : hOk (ws'.getD nx 0) = true) (hnx : nx' = nx + 1 + hK (ws'.getD nx 0)) :
    ∀ (f f' p : Nat) (ps : List Nat), places ws nx f p = some ps → p ≤ nx → nx - p ≤ f → nx' - p ≤ f' → places ws' nx' f' p = some (ps ++ [nx]) := by
  have hend : ∀ f' p, p = nx → nx' - p ≤ f' → places ws' nx' f' p = some [nx] := by
    intro f' p hp hf
    subst hp
    obtain ⟨g, rfl⟩ : ∃ g, f' = g + 1 := ⟨f' - 1, by omega⟩
    rw [places_go (by omega) hh (by omega), places_end (by omega)]
    rfl
  intro f
  induction f with
  | zero =>
    intro f' p ps h hp hf hf'
    rw [places_end (by omega)] at h
    cases h
    exact hend f' p (by omega) hf'
  | succ f ih =>
    intro f' p ps h hp hf hf'
    by_cases hlt : p < nx
    · by_cases hb : hOk (ws.getD p 0) = true ∧ p + 1 + hK (ws.getD p 0) ≤ nx
      · rw [places_go hlt hb.1 hb.2] at h
        obtain ⟨r, hr, rfl⟩ := Option.map_eq_some_iff.1 h
        obtain ⟨g, rfl⟩ : ∃ g, f' = g + 1 := ⟨f' - 1, by omega⟩
        have e := hlow p hlt
        rw [places_go (by omega) (by rw [e]; exact hb.1) (by rw [e]; omega), e, ih g _ r hr (by omega) (by omega) (by omega)]
        rfl
      · rw [places_bad hlt hb] at h; cases h
    · rw [places_end hlt] at h
      cases h
      exact hend f' p (by omega) hf'
theorem hdOf_told (f : Bool) (tag : Int) (m : Nat) (h0 : 0 ≤ tag) (h1 : tag ≤ 3000) (h2 : m ≤ 20) : hOk (hdOf f tag m) = true ∧ hFun (hdOf f tag m) = f ∧ hTag (hdOf f tag m) = tag ∧ hK (hdOf f tag m) = m := by
  have k1 : hKids (hdOf f tag m) = m := by unfold hKids hdOf; split <;> omega
  have k2 : hTag (hdOf f tag m) = tag := by unfold hTag hdOf; split <;> omega
  refine ⟨hOk_true.2 ⟨?_, ?_, by omega, by omega⟩, ?_, k2, ?_⟩
  · unfold hdOf; split <;> omega
  · unfold hdOf; split <;> omega
  · unfold hFun hdOf
    cases f
    · simp; omega
    · simp; omega
  · unfold hK; rw [k1]; simp
/-- what is so of a heap on which a block was put. -/
structure Putd (ws : List Int) (h b n : Nat) (f : Bool) (tag : Int) (ks : List Int) (P : Put) : Prop where
  ws_ : P.ws = ov ws n (hdOf f tag ks.length :: ks)
  next : P.next = ((n + 1 + ks.length : Nat) : Int)
  at_ : P.at_ = (n : Int)
  ok : P.ok = true
  tag0 : 0 ≤ tag ∧ tag ≤ 3000
  kids : ks.length ≤ 20
  fit : n + 1 + ks.length ≤ b + h
  right : heapOk P.ws h b P.next = true
theorem alloc_ok {ws : List Int} {h b n : Int} {f : Bool} {tag : Int} {ks : List Int} (hk : (allocOf ws h b n f tag ks).ok = true) :
    ∃ (h' b' n' : Nat) (ps : List Nat), h = h' ∧ b = b' ∧ n = n' ∧ Right ws h' b' n' ps ∧ Putd ws h' b' n' f tag ks (allocOf ws h b n f tag ks) := by
  by_cases hc : heapOk ws h b n = true ∧ inB tag 0 3000 = true ∧ ks.length ≤ 20 ∧ n + (1 + ks.length) ≤ b + h
  · obtain ⟨h1, h2, h3, h4⟩ := hc
    obtain ⟨h', b', n', ps, rfl, rfl, rfl, hR⟩ := Right.of h1
    refine ⟨h', b', n', ps, rfl, rfl, rfl, hR, ?_⟩
    have h2' := inB_true.1 h2
    rw [alloc_if h1 h2 h3 h4] at hk ⊢
    split at hk
    · rename_i h5
      rw [if_pos h5]
      exact ⟨rfl, by dsimp only; omega, rfl, rfl, h2', h3, by omega, h5⟩
    · cases hk
  · rw [alloc_not hc] at hk
    cases hk
theorem alloc_no {ws : List Int} {h b n : Int} {f : Bool} {tag : Int} {ks : List Int} (hk : (allocOf ws h b n f tag ks).ok = false) : allocOf ws h b n f tag ks = ⟨ws, n, 0, false⟩ := by
  unfold allocOf at hk ⊢
  split at hk
  · cases hk
  · rename_i h; rw [if_neg h]
theorem Putd.block {ws : List Int} {h b n : Nat} {f : Bool} {tag : Int} {ks : List Int} {P : Put} {ps : List Nat} (hP : Putd ws h b n f tag ks P) (hR : Right ws h b n ps) :
    blockOf P.ws h b P.next P.at_ = some n ∧ hFun (P.ws.getD n 0) = f ∧ hTag (P.ws.getD n 0) = tag ∧ kidsAt P.ws n = ks := by
  obtain ⟨t0, t1, t2, t3⟩ := hdOf_told f tag ks.length hP.tag0.1 hP.tag0.2 hP.kids
  have hnl := hR.n_le
  have hfr := hR.frame.len
  have hb0 := hR.frame.n0
  have hbb := hR.frame.base
  have hfit := hP.fit
  have e0 : P.ws.getD n 0 = hdOf f tag ks.length := by
    rw [hP.ws_]
    exact ov_at (ws := ws) (p := n) (j := 0) (ks := hdOf f tag ks.length :: ks) (by simp) (by omega)
  rw [e0]
  refine ⟨?_, t1, t2, ?_⟩
  · unfold blockOf
    rw [if_pos hP.right, hP.next, hP.at_]
    have hp : placesOf P.ws ((b : Int)).toNat (((n + 1 + ks.length : Nat) : Int)).toNat = some (ps ++ [n]) := by
      unfold placesOf
      rw [Int.toNat_natCast, Int.toNat_natCast]
      exact places_snoc (ws := ws) (nx := n) (fun j hj => by rw [hP.ws_]; exact ov_low hj (by omega)) (by rw [e0]; exact t0) (by rw [e0, t3]) _ _ _ _ hR.some hb0 (Nat.le_refl _) (Nat.le_refl _)
    rw [hp]
    have hm : (n : Int) ∈ nums (ps ++ [n]) := by simp [nums]
    simp only [hm, if_true, Int.toNat_natCast]
  · unfold kidsAt
    rw [e0, t3, hP.ws_]
    unfold ov
    have hl : (ws.take n).length = n := by simp; omega
    rw [List.drop_append, hl, List.drop_eq_nil_of_le (by omega), List.nil_append, show n + 1 - n = 1 by omega, List.cons_append, List.drop_succ_cons, List.drop_zero, List.take_left]
theorem Right.okB {ws : List Int} {h b n : Nat} {ps : List Nat} (hR : Right ws h b n ps) : heapOk ws h b n = true := by
  have hF : heapFrame ws h b n = true := by
    unfold heapFrame
    rw [decide_eq_true_eq]
    have F := hR.frame
    have f1 := F.h0
    have f2 := F.h1
    have f3 := F.len
    have f4 := F.base
    have f5 := F.n0
    have f6 := F.n1
    omega
  rw [heapOk_places hF hR.some]
  exact hR.fit
theorem new_ok {n : Int} (h : inB n 1 3000 = true) : heapOk (newWords n) n 0 0 = true := by
  obtain ⟨h1, h2⟩ := inB_true.1 h
  unfold heapOk heapFrame newWords
  rw [if_pos h]
  have : decide (1 ≤ n ∧ n ≤ 3000 ∧ ((List.replicate (2 * n.toNat) (0 : Int)).length : Int) = 2 * n ∧ ((0 : Int) = 0 ∨ (0 : Int) = n) ∧ (0 : Int) ≤ 0 ∧ (0 : Int) ≤ 0 + n) = true := by
    rw [decide_eq_true_eq, List.length_replicate]
    omega
  rw [this]
  unfold placesOf
  rw [places_end (by simp)]
  simp [blocksFit]

end Go.Proofs.Ytmcoidnonmmpjaa
