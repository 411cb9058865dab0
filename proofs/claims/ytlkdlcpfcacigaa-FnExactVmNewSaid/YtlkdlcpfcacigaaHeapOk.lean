/- HeapOk of the program and of the reference. -/
import Derived.Test.YtlkdlcpfcacigaaPlaces
import Derived.Test.YtlkdlcpfcacigaaMgFind
namespace Go.Proofs.Ytlkdlcpfcacigaa
open Go.RowKit
set_option linter.unusedVariables false

theorem heapFrame_true {ws : List Int} {h b n : Int} (hf : heapFrame ws h b n = true) : ∃ h' b' n' : Nat, h = h' ∧ b = b' ∧ n = n' ∧ Frame ws h' b' n' := by
  unfold heapFrame at hf
  rw [decide_eq_true_iff] at hf
  obtain ⟨h1, h2, h3, h4, h5, h6⟩ := hf
  exact ⟨h.toNat, b.toNat, n.toNat, by omega, by omega, by omega, by omega, by omega, by omega, by omega, by omega, by omega⟩
theorem heapOk_noframe {ws : List Int} {h b n : Int} (hf : heapFrame ws h b n = false) : heapOk ws h b n = false := by simp [heapOk, hf]
theorem frame_half {ws : List Int} {h b n : Int} (hf : inB h 1 3000 = false) : heapFrame ws h b n = false := by
  have := inB_false.1 hf
  simp only [heapFrame, decide_eq_false_iff_not]; omega
theorem frame_len {ws : List Int} {h b n : Int} (hf : ¬ (ws.length : Int) = 2 * h) : heapFrame ws h b n = false := by
  simp only [heapFrame, decide_eq_false_iff_not]; omega
theorem frame_base {ws : List Int} {h b n : Int} (h1 : ¬ b = 0) (h2 : ¬ b = h) : heapFrame ws h b n = false := by
  simp only [heapFrame, decide_eq_false_iff_not]; omega
theorem frame_next {ws : List Int} {h b n : Int} (hf : inB n b (b + h) = false) : heapFrame ws h b n = false := by
  have := inB_false.1 hf
  simp only [heapFrame, decide_eq_false_iff_not]; omega
theorem frame_all {ws : List Int} {h b n : Int} (h1 : inB h 1 3000 = true) (h2 : (ws.length : Int) = 2 * h) (h3 : b = 0 ∨ b = h) (h4 : inB n b (b + h) = true) : heapFrame ws h b n = true := by
  have := inB_true.1 h1
  have := inB_true.1 h4
  simp only [heapFrame, decide_eq_true_iff]; omega
theorem heapOk_noplaces {ws : List Int} {h b n : Nat} (hp : placesOf ws b n = none) : heapOk ws h b n = false := by simp [heapOk, hp]
theorem heapOk_places {ws : List Int} {h b n : Nat} {ps : List Nat} (hf : heapFrame ws h b n = true) (hp : placesOf ws b n = some ps) : heapOk ws h b n = blocksFit ws ps := by simp [heapOk, hp, hf]

theorem take_drop_get (ws : List Int) (p m j : Nat) (hj : j < m) : ((ws.drop p).take m).getD j 0 = ws.getD (p + j) 0 := by
  simp [List.getD, hj]
theorem kidsAt_len {ws : List Int} {p : Nat} (h : p + 1 + hK (ws.getD p 0) ≤ ws.length) : (kidsAt ws p).length = hK (ws.getD p 0) := by
  unfold kidsAt
  generalize hK (ws.getD p 0) = m at h ⊢
  simp; omega
/-- the kids of a block, read. -/
theorem Rd.kids {B : Nat} {w : World} {b off cap : Nat} {ws : List Int} (hB : b < B) (hbs : b < w.heap.size) (hc : ∀ j, j < ws.length → w.cell? ⟨b, off + j, none⟩ = some (.int .i64 (ws.getD j 0))) (p : Nat) (c : Nat) (h : p + 1 + hK (ws.getD p 0) ≤ ws.length) (hm : ws.length ≤ maxLen) (q : Nat) (hq : q = off + (p + 1)) (m : Nat) (hmm : m = hK (ws.getD p 0)) (hmc : m ≤ c) :
    Rd B .i64 w (.slice (some ⟨b, q, none⟩) m c) (kidsAt ws p) := by
  subst hq
  subst hmm
  have hl := kidsAt_len h
  refine .inr ⟨b, off + (p + 1), c, by rw [hl], hB, hbs, ⟨by omega, by omega⟩, fun j hj => ?_⟩
  rw [hl] at hj
  rw [Nat.add_assoc, hc (p + 1 + j) (by omega)]
  unfold kidsAt
  rw [take_drop_get _ _ _ _ hj]
theorem fit_step {ws : List Int} {ps : List Nat} {k : Nat} (h : ∀ j, j < k → (kidsAt ws (ps.getD j 0)).all (wordIn ps) = true) (he : (kidsAt ws (ps.getD k 0)).all (wordIn ps) = true) : ∀ j, j < k + 1 → (kidsAt ws (ps.getD j 0)).all (wordIn ps) = true := by
  intro j hj
  by_cases e : j = k
  · subst e; exact he
  · exact h j (by omega)
theorem fit_all {ws : List Int} {ps : List Nat} (h : ∀ j, j < ps.length → (kidsAt ws (ps.getD j 0)).all (wordIn ps) = true) : blocksFit ws ps = true := by
  unfold blocksFit
  rw [List.all_eq_true]
  intro x hx
  obtain ⟨i, hi, he⟩ := List.getElem_of_mem hx
  have := h i hi
  simpa [List.getD, List.getElem?_eq_getElem hi, he] using this
theorem fit_bad {ws : List Int} {ps : List Nat} {k : Nat} (hk : k < ps.length) (h : (kidsAt ws (ps.getD k 0)).all (wordIn ps) = false) : blocksFit ws ps = false := by
  unfold blocksFit
  rw [List.all_eq_false]
  exact ⟨ps.getD k 0, by simp [List.getD, List.getElem?_eq_getElem hk], by rw [h]; simp⟩
theorem nums_get (ps : List Nat) (k : Nat) : (nums ps).getD k 0 = ((ps.getD k 0 : Nat) : Int) := by
  simp only [nums, List.getD, List.getElem?_map]
  cases ps[k]? <;> simp
theorem map_ofN (ps : List Nat) : ps.map ofN = (nums ps).map (Value.int .i64) := by simp [nums, ofN, Function.comp_def]
theorem places_len {ws : List Int} {h b n : Nat} {ps : List Nat} (hp : placesOf ws b n = some ps) (hF : Frame ws h b n) : ps.length ≤ 4294967296 := by
  have h1 := places_in _ _ _ hp
  have h2 := places_sorted _ _ _ hp
  have h3 : ps.length ≤ n := by
    have := List.Nodup.length_le_of_subset (l₁ := ps) (l₂ := List.range n) (h2.imp (fun h => Nat.ne_of_lt h)) (fun q hq => by simpa using (h1 q hq).2.1)
    simpa using this
  have := hF.n1; have := hF.h1; have := hF.base
  omega
theorem get_mem {ps : List Nat} {k : Nat} (hk : k < ps.length) : ps.getD k 0 ∈ ps := by simp [List.getD, List.getElem?_eq_getElem hk]

end Go.Proofs.Ytlkdlcpfcacigaa
