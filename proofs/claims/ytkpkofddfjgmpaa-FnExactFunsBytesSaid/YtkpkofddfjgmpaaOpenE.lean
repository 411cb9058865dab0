/- Arguments opened: slices of structs of three ints. Nothing of the program is named here. -/
import Derived.Test.YtkpkofddfjgmpaaOpen
import Derived.Test.YtkpkofddfjgmpaaOps
import Derived.Deep.Slices
import Derived.Deep.Strs
namespace Go.Proofs.Ytkpkofddfjgmpaa
open Go.ChangeShapes Go.WideShapes Go.ChangeAt Go.RowKit
set_option linter.unusedVariables false

section
variable {H : Type} {enc : TypeId × Value → H} {P : Program} {w : World} {base : Nat}
/-- three ints of one struct. -/
theorem o3_open {t e : TypeId} {f0 f1 f2 : Field} {fuel : Nat} {held : Bool} {cs : List Value} {x : DataW H × List MemPlace} (ht : P.underlying t = some (.struct #[f0, f1, f2])) (he : P.underlying e = some (.int .i64))
    (h0 : f0.type = e ∧ f0.offset = 0) (h1 : f1.type = e ∧ f1.offset = 1) (h2 : f2.type = e ∧ f2.offset = 2) (hc : P.cellsOf e = 1) (hC : P.cellsOf t = 3)
    (h : DataW.trod enc P w base (fun _ => true) held fuel t cs = some x) : ∃ o : O3, cs = o.enc ∧ o3In o := by
  obtain ⟨y0, y1, y2, n, _, hl, k0, k1, k2⟩ := Go.Deep.trod_struct3 ht h
  rw [hC] at hl
  obtain ⟨a, b, c, rfl⟩ : ∃ a b c, cs = [a, b, c] := by
    match cs, hl with
    | [a, b, c], _ => exact ⟨a, b, c, rfl⟩
  rw [h0.1, h0.2, hc] at k0
  rw [h1.1, h1.2, hc] at k1
  rw [h2.1, h2.2, hc] at k2
  obtain ⟨i, rfl, hi⟩ := int_rd he (by simpa using k0)
  obtain ⟨j, rfl, hj⟩ := int_rd he (by simpa using k1)
  obtain ⟨k, rfl, hk⟩ := int_rd he (by simpa using k2)
  exact ⟨⟨i, j, k⟩, rfl, hi, hj, hk⟩

theorem ops_rd {s t e : TypeId} {f0 f1 f2 : Field} {fuel : Nat} {held : Bool} {c : Value} {x : DataW H × List MemPlace} (hs : P.underlying s = some (.slice t)) (ht : P.underlying t = some (.struct #[f0, f1, f2])) (he : P.underlying e = some (.int .i64))
    (h0 : f0.type = e ∧ f0.offset = 0) (h1 : f1.type = e ∧ f1.offset = 1) (h2 : f2.type = e ∧ f2.offset = 2) (hc : P.cellsOf e = 1) (hC : P.cellsOf t = 3)
    (h : DataW.trod enc P w base (fun _ => true) held fuel s [c] = some x) : ∃ os, RdO w.heap.size w c os ∧ ∀ o ∈ os, o3In o := by
  rcases Go.Deep.open_slice hs h with ⟨hcs, _⟩ | ⟨a, len, cap, m, n, D, Pl, hcs, _, hl, hm, hmm, _, hx⟩
  · simp only [List.cons.injEq, and_true] at hcs
    subst hcs
    exact ⟨[], .inl ⟨rfl, _, _, rfl⟩, fun o ho => by cases ho⟩
  · simp only [List.cons.injEq, and_true] at hcs
    subst hcs
    simp only [if_true] at hmm
    subst hmm
    have hall : ∀ i, i < len → ∃ o : O3, (∀ q, q < 3 → w.cell? ((a.add (i * 3)).add q) = o.enc[q]?) ∧ o3In o := by
      intro i hi
      obtain ⟨cs, hcs, htr⟩ := hx i (by omega)
      obtain ⟨o, rfl, ho⟩ := o3_open ht he h0 h1 h2 hc hC htr
      rw [hC] at hcs
      exact ⟨o, (World.cells?_some hcs).2.2, ho⟩
    rcases Nat.eq_zero_or_pos len with rfl | hpos
    · exact ⟨[], .inl ⟨rfl, _, _, rfl⟩, fun o ho => by cases ho⟩
    · obtain ⟨f, hf⟩ : ∃ f : Nat → O3, ∀ i, i < len → (∀ q, q < 3 → w.cell? ((a.add (i * 3)).add q) = (f i).enc[q]?) ∧ o3In (f i) := by
        haveI : Inhabited O3 := ⟨⟨0, 0, 0⟩⟩
        exact Go.Deep.choose_lt hall
      obtain ⟨b, off, spot⟩ := a
      have hz := (hf 0 hpos).1 0 (by decide)
      have hspot : spot = none := by
        have : w.cell? ⟨b, off, spot⟩ = some (.int .i64 (f 0).c) := by simpa [Addr.add, O3.enc] using hz
        simpa using World.cell?_spot this
      subst hspot
      have hcell : ∀ i, i < len → ∀ q, q < 3 → w.cell? ⟨b, off + i * 3 + q, none⟩ = (f i).enc[q]? := by
        intro i hi q hq
        rw [← (hf i hi).1 q hq, Go.Deep.add_add, add_plain, Nat.add_assoc]
      have hb : b < w.heap.size := World.block_lt_of_cell? w ⟨b, off, none⟩ (u := .int .i64 (f 0).c) (by simpa [O3.enc] using hcell 0 hpos 0 (by decide))
      refine ⟨(List.range len).map f, .inr ⟨b, off, m, by simp, hb, hb, ⟨by simp; omega, by simpa using hl⟩, ?_⟩, ?_⟩
      · intro j x hj t ht
        simp only [List.getElem?_map] at hj
        by_cases hjl : j < len
        · rw [List.getElem?_range hjl] at hj
          simp only [Option.map_some, Option.some.injEq] at hj
          subst hj
          exact hcell j hjl t ht
        · rw [List.getElem?_eq_none (by simp; omega)] at hj
          simp at hj
      · intro o ho
        simp only [List.mem_map, List.mem_range] at ho
        obtain ⟨i, hi, rfl⟩ := ho
        exact (hf i hi).2
end

end Go.Proofs.Ytkpkofddfjgmpaa
