import Derived.Test.YtlkdlcpfcacigaaOpen
import Derived.Test.YtlkdlcpfcacigaaMgElem
import Derived.Deep.Slices
import Derived.Deep.Strs
import Derived.Test.YtlkdlcpfcacigaaVm
import Derived.Deep.SlicePairs
import Derived.Lib.SmallJoins
/- Arguments opened: slices of structs of three ints. Nothing of the program is named here. -/
namespace Go.Proofs.Ytlkdlcpfcacigaa
open Go.ChangeShapes Go.WideShapes Go.ChangeAt Go.RowKit
set_option linter.unusedVariables false

section
variable {H : Type} {enc : TypeId × Value → H} {P : Program} {w : World} {base : Nat}
/-- three ints of one struct. -/
theorem o3_open {t e : TypeId} {f0 f1 f2 : Field} {fuel : Nat} {held : Bool} {cs : List Value} {x : DataW H × List MemPlace} (ht : P.underlying t = some (.struct #[f0, f1, f2])) (he : P.underlying e = some (.int .i64))
    (h0 : f0.type = e ∧ f0.offset = 0) (h1 : f1.type = e ∧ f1.offset = 1) (h2 : f2.type = e ∧ f2.offset = 2) (hc : P.cellsOf e = 1) (hC : P.cellsOf t = 3)
    (h : DataW.trod enc P w base (fun _ => true) held fuel t cs = some x) : ∃ o : O3, cs = o.enc ∧ o3In o := by
  obtain ⟨y0, y1, y2, n, _, hl, k0, k1, k2⟩ := Go.Deep.trod_struct3 ht h
  rw [hC] at hl
  obtain ⟨a, b, c, rfl⟩ : ∃ a b c, cs = [a, b, c] := by
    match cs, hl with
    | [a, b, c], _ => exact ⟨a, b, c, rfl⟩
  rw [h0.1, h0.2, hc] at k0
  rw [h1.1, h1.2, hc] at k1
  rw [h2.1, h2.2, hc] at k2
  obtain ⟨i, rfl, hi⟩ := int_rd he (by simpa using k0)
  obtain ⟨j, rfl, hj⟩ := int_rd he (by simpa using k1)
  obtain ⟨k, rfl, hk⟩ := int_rd he (by simpa using k2)
  exact ⟨⟨i, j, k⟩, rfl, hi, hj, hk⟩

theorem ops_rd {s t e : TypeId} {f0 f1 f2 : Field} {fuel : Nat} {held : Bool} {c : Value} {x : DataW H × List MemPlace} (hs : P.underlying s = some (.slice t)) (ht : P.underlying t = some (.struct #[f0, f1, f2])) (he : P.underlying e = some (.int .i64))
    (h0 : f0.type = e ∧ f0.offset = 0) (h1 : f1.type = e ∧ f1.offset = 1) (h2 : f2.type = e ∧ f2.offset = 2) (hc : P.cellsOf e = 1) (hC : P.cellsOf t = 3)
    (h : DataW.trod enc P w base (fun _ => true) held fuel s [c] = some x) : ∃ os, RdO w.heap.size w c os ∧ ∀ o ∈ os, o3In o := by
  rcases Go.Deep.open_slice hs h with ⟨hcs, _⟩ | ⟨a, len, cap, m, n, D, Pl, hcs, _, hl, hm, hmm, _, hx⟩
  · simp only [List.cons.injEq, and_true] at hcs
    subst hcs
    exact ⟨[], .inl ⟨rfl, _, _, rfl⟩, fun o ho => by cases ho⟩
  · simp only [List.cons.injEq, and_true] at hcs
    subst hcs
    simp only [if_true] at hmm
    subst hmm
    have hall : ∀ i, i < len → ∃ o : O3, (∀ q, q < 3 → w.cell? ((a.add (i * 3)).add q) = o.enc[q]?) ∧ o3In o := by
      intro i hi
      obtain ⟨cs, hcs, htr⟩ := hx i (by omega)
      obtain ⟨o, rfl, ho⟩ := o3_open ht he h0 h1 h2 hc hC htr
      rw [hC] at hcs
      exact ⟨o, (World.cells?_some hcs).2.2, ho⟩
    rcases Nat.eq_zero_or_pos len with rfl | hpos
    · exact ⟨[], .inl ⟨rfl, _, _, rfl⟩, fun o ho => by cases ho⟩
    · obtain ⟨f, hf⟩ : ∃ f : Nat → O3, ∀ i, i < len → (∀ q, q < 3 → w.cell? ((a.add (i * 3)).add q) = (f i).enc[q]?) ∧ o3In (f i) := by
        haveI : Inhabited O3 := ⟨⟨0, 0, 0⟩⟩
        exact Go.Deep.choose_lt hall
      obtain ⟨b, off, spot⟩ := a
      have hz := (hf 0 hpos).1 0 (by decide)
      have hspot : spot = none := by
        have : w.cell? ⟨b, off, spot⟩ = some (.int .i64 (f 0).c) := by simpa [Addr.add, O3.enc] using hz
        simpa using World.cell?_spot this
      subst hspot
      have hcell : ∀ i, i < len → ∀ q, q < 3 → w.cell? ⟨b, off + i * 3 + q, none⟩ = (f i).enc[q]? := by
        intro i hi q hq
        rw [← (hf i hi).1 q hq, Go.Deep.add_add, add_plain, Nat.add_assoc]
      have hb : b < w.heap.size := World.block_lt_of_cell? w ⟨b, off, none⟩ (u := .int .i64 (f 0).c) (by simpa [O3.enc] using hcell 0 hpos 0 (by decide))
      refine ⟨(List.range len).map f, .inr ⟨b, off, m, by simp, hb, hb, ⟨by simp; omega, by simpa using hl⟩, ?_⟩, ?_⟩
      · intro j x hj t ht
        simp only [List.getElem?_map] at hj
        by_cases hjl : j < len
        · rw [List.getElem?_range hjl] at hj
          simp only [Option.map_some, Option.some.injEq] at hj
          subst hj
          exact hcell j hjl t ht
        · rw [List.getElem?_eq_none (by simp; omega)] at hj
          simp at hj
      · intro o ho
        simp only [List.mem_map, List.mem_range] at ho
        obtain ⟨i, hi, rfl⟩ := ho
        exact (hf i hi).2
end

end Go.Proofs.Ytlkdlcpfcacigaa

/- Arguments opened: slices of functions, machines. -/
namespace Go.Proofs.Ytlkdlcpfcacigaa
open Go.ChangeShapes Go.WideShapes Go.ChangeAt Go.RowKit
set_option linter.unusedVariables false

def vmIn (L : VmL) : Prop := (∀ x ∈ L.fs, fnIn x) ∧ intsIn L.zs ∧ (-9223372036854775808 ≤ L.h ∧ L.h ≤ 9223372036854775807) ∧ (-9223372036854775808 ≤ L.b ∧ L.b ≤ 9223372036854775807) ∧ (-9223372036854775808 ≤ L.n ∧ L.n ≤ 9223372036854775807) ∧
  intsIn L.ss ∧ (∀ x ∈ L.cs, o3In x) ∧ intsIn L.os ∧ (-9223372036854775808 ≤ L.code ∧ L.code ≤ 9223372036854775807)

section
variable {H : Type} {enc : TypeId × Value → H} {w : World} {base : Nat}

theorem laws_ops_rd {fuel : Nat} {held : Bool} {c : Value} {x : DataW H × List MemPlace} (h : DataW.trod enc Try.prog w base (fun _ => true) held fuel 40 [c] = some x) : ∃ os, RdO w.heap.size w c os ∧ ∀ o ∈ os, o3In o :=
  ops_rd Try.underlying40 Try.underlying86 Try.underlying3 ⟨rfl, rfl⟩ ⟨rfl, rfl⟩ ⟨rfl, rfl⟩ (by kernel_rfl) (by kernel_rfl) h

theorem funs_rd {fuel : Nat} {held : Bool} {c : Value} {x : DataW H × List MemPlace} (h : DataW.trod enc Try.prog w base (fun _ => true) held fuel 22 [c] = some x) : ∃ fs, RdF w.heap.size w c fs ∧ ∀ x ∈ fs, fnIn x := by
  rcases Go.Deep.open_slice_pairs Try.underlying22 Try.underlying42 (by kernel_rfl) rfl rfl (by kernel_rfl) (by kernel_rfl) h with ⟨hcs, _⟩ | ⟨a, len, cap, m, n, V0, V1, D0, D1, P0, P1, hcs, _, hl, hm, hmm, _, hx⟩
  · simp only [List.cons.injEq, and_true] at hcs
    subst hcs
    exact ⟨[], ⟨[], .inl ⟨rfl, _, _, rfl⟩, rfl, fun j h => absurd h (by simp)⟩, fun o ho => by cases ho⟩
  · simp only [List.cons.injEq, and_true] at hcs
    subst hcs
    simp only [if_true] at hmm
    subst hmm
    have hall : ∀ i, i < len → ∃ q : Int × List O3, (w.cell? (a.add (i * 2)) = some (.int .i64 q.1) ∧ w.cell? (a.add (i * 2 + 1)) = some (V1 i) ∧ RdO w.heap.size w (V1 i) q.2) ∧ fnIn ⟨q.1, q.2⟩ := by
      intro i hi
      obtain ⟨c0, c1, t0, t1⟩ := hx i (by omega)
      obtain ⟨f, hf, hfi⟩ := int_rd Try.underlying3 t0
      obtain ⟨os, ro, ho⟩ := laws_ops_rd t1
      exact ⟨(f, os), ⟨by rw [← hf]; exact c0, c1, ro⟩, hfi, ho⟩
    rcases Nat.eq_zero_or_pos len with rfl | hpos
    · exact ⟨[], ⟨[], .inl ⟨rfl, _, _, rfl⟩, rfl, fun j h => absurd h (by simp)⟩, fun o ho => by cases ho⟩
    · obtain ⟨f, hf⟩ : ∃ f : Nat → Int × List O3, ∀ i, i < len → (w.cell? (a.add (i * 2)) = some (.int .i64 (f i).1) ∧ w.cell? (a.add (i * 2 + 1)) = some (V1 i) ∧ RdO w.heap.size w (V1 i) (f i).2) ∧ fnIn ⟨(f i).1, (f i).2⟩ := Go.Deep.choose_lt hall
      obtain ⟨b, off, spot⟩ := a
      have hz := (hf 0 hpos).1.1
      have hspot : spot = none := by
        have : w.cell? ⟨b, off, spot⟩ = some (.int .i64 (f 0).1) := by simpa [Addr.add] using hz
        simpa using World.cell?_spot this
      subst hspot
      have hc0 : ∀ i, i < len → w.cell? ⟨b, off + i * 2, none⟩ = some (.int .i64 (f i).1) := fun i hi => by rw [← (hf i hi).1.1, add_plain]
      have hc1 : ∀ i, i < len → w.cell? ⟨b, off + i * 2 + 1, none⟩ = some (V1 i) := fun i hi => by rw [← (hf i hi).1.2.1, add_plain, Nat.add_assoc]
      have hb : b < w.heap.size := World.block_lt_of_cell? w ⟨b, off, none⟩ (u := .int .i64 (f 0).1) (by simpa using hc0 0 hpos)
      refine ⟨(List.range len).map fun i => ⟨(f i).1, (f i).2⟩, ⟨(List.range len).map fun i => ((f i).1, V1 i), .inr ⟨b, off, m, by simp, hb, hb, ⟨by simp; omega, by simpa using hl⟩, ?_⟩, by simp, ?_⟩, ?_⟩
      · intro j x hj t ht
        simp only [List.getElem?_map] at hj
        by_cases hjl : j < len
        · rw [List.getElem?_range hjl] at hj
          simp only [Option.map_some, Option.some.injEq] at hj
          subst hj
          match t, ht with
          | 0, _ => exact hc0 j hjl
          | 1, _ => exact hc1 j hjl
        · rw [List.getElem?_eq_none (by simp; omega)] at hj
          simp at hj
      · intro j h1 h2
        have hjl : j < len := by simpa using h1
        simp only [List.getElem_map, List.getElem_range]
        exact ⟨trivial, (hf j hjl).1.2.2⟩
      · intro o ho
        simp only [List.mem_map, List.mem_range] at ho
        obtain ⟨i, hi, rfl⟩ := ho
        exact (hf i hi).2

theorem list10 {α : Type} {l : List α} (h : l.length = 10) : ∃ c0 c1 c2 c3 c4 c5 c6 c7 c8 c9, l = [c0, c1, c2, c3, c4, c5, c6, c7, c8, c9] := by
  match l, h with
  | [c0, c1, c2, c3, c4, c5, c6, c7, c8, c9], _ => exact ⟨_, _, _, _, _, _, _, _, _, _, rfl⟩
theorem list7 {α : Type} {l : List α} (h : l.length = 7) : ∃ c0 c1 c2 c3 c4 c5 c6, l = [c0, c1, c2, c3, c4, c5, c6] := by
  match l, h with
  | [c0, c1, c2, c3, c4, c5, c6], _ => exact ⟨_, _, _, _, _, _, _, rfl⟩

end

end Go.Proofs.Ytlkdlcpfcacigaa
