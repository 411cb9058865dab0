/- Arguments opened: slices of functions, machines. -/
import Derived.Test.YtkpkofddfjgmpaaOpenE
import Derived.Test.YtkpkofddfjgmpaaVm
import Derived.Deep.SlicePairs
import Derived.Lib.SmallJoins
namespace Go.Proofs.Ytkpkofddfjgmpaa
open Go.ChangeShapes Go.WideShapes Go.ChangeAt Go.RowKit
set_option linter.unusedVariables false

def vmIn (L : VmL) : Prop := (∀ x ∈ L.fs, fnIn x) ∧ intsIn L.zs ∧ (-9223372036854775808 ≤ L.h ∧ L.h ≤ 9223372036854775807) ∧ (-9223372036854775808 ≤ L.b ∧ L.b ≤ 9223372036854775807) ∧ (-9223372036854775808 ≤ L.n ∧ L.n ≤ 9223372036854775807) ∧
  intsIn L.ss ∧ (∀ x ∈ L.cs, o3In x) ∧ intsIn L.os ∧ (-9223372036854775808 ≤ L.code ∧ L.code ≤ 9223372036854775807)

section
variable {H : Type} {enc : TypeId × Value → H} {w : World} {base : Nat}
theorem laws_ops_rd {fuel : Nat} {held : Bool} {c : Value} {x : DataW H × List MemPlace} (h : DataW.trod enc Try.prog w base (fun _ => true) held fuel 27 [c] = some x) : ∃ os, RdO w.heap.size w c os ∧ ∀ o ∈ os, o3In o :=
  ops_rd Try.underlying27 Try.underlying125 Try.underlying3 ⟨rfl, rfl⟩ ⟨rfl, rfl⟩ ⟨rfl, rfl⟩ (by kernel_rfl) (by kernel_rfl) h
theorem laws_calls_rd {fuel : Nat} {held : Bool} {c : Value} {x : DataW H × List MemPlace} (h : DataW.trod enc Try.prog w base (fun _ => true) held fuel 42 [c] = some x) : ∃ os, RdO w.heap.size w c os ∧ ∀ o ∈ os, o3In o :=
  ops_rd Try.underlying42 Try.underlying128 Try.underlying3 ⟨rfl, rfl⟩ ⟨rfl, rfl⟩ ⟨rfl, rfl⟩ (by kernel_rfl) (by kernel_rfl) h

theorem funs_rd {fuel : Nat} {held : Bool} {c : Value} {x : DataW H × List MemPlace} (h : DataW.trod enc Try.prog w base (fun _ => true) held fuel 38 [c] = some x) : ∃ fs, RdF w.heap.size w c fs ∧ ∀ x ∈ fs, fnIn x := by
  rcases Go.Deep.open_slice_pairs Try.underlying38 Try.underlying29 (by kernel_rfl) rfl rfl (by kernel_rfl) (by kernel_rfl) h with ⟨hcs, _⟩ | ⟨a, len, cap, m, n, V0, V1, D0, D1, P0, P1, hcs, _, hl, hm, hmm, _, hx⟩
  · simp only [List.cons.injEq, and_true] at hcs
    subst hcs
    exact ⟨[], ⟨[], .inl ⟨rfl, _, _, rfl⟩, rfl, fun j h => absurd h (by simp)⟩, fun o ho => by cases ho⟩
  · simp only [List.cons.injEq, and_true] at hcs
    subst hcs
    simp only [if_true] at hmm
    subst hmm
    have hall : ∀ i, i < len → ∃ q : Int × List O3, (w.cell? (a.add (i * 2)) = some (.int .i64 q.1) ∧ w.cell? (a.add (i * 2 + 1)) = some (V1 i) ∧ RdO w.heap.size w (V1 i) q.2) ∧ fnIn ⟨q.1, q.2⟩ := by
      intro i hi
      obtain ⟨c0, c1, t0, t1⟩ := hx i (by omega)
      obtain ⟨f, hf, hfi⟩ := int_rd Try.underlying3 t0
      obtain ⟨os, ro, ho⟩ := laws_ops_rd t1
      exact ⟨(f, os), ⟨by rw [← hf]; exact c0, c1, ro⟩, hfi, ho⟩
    rcases Nat.eq_zero_or_pos len with rfl | hpos
    · exact ⟨[], ⟨[], .inl ⟨rfl, _, _, rfl⟩, rfl, fun j h => absurd h (by simp)⟩, fun o ho => by cases ho⟩
    · obtain ⟨f, hf⟩ : ∃ f : Nat → Int × List O3, ∀ i, i < len → (w.cell? (a.add (i * 2)) = some (.int .i64 (f i).1) ∧ w.cell? (a.add (i * 2 + 1)) = some (V1 i) ∧ RdO w.heap.size w (V1 i) (f i).2) ∧ fnIn ⟨(f i).1, (f i).2⟩ := Go.Deep.choose_lt hall
      obtain ⟨b, off, spot⟩ := a
      have hz := (hf 0 hpos).1.1
      have hspot : spot = none := by
        have : w.cell? ⟨b, off, spot⟩ = some (.int .i64 (f 0).1) := by simpa [Addr.add] using hz
        simpa using World.cell?_spot this
      subst hspot
      have hc0 : ∀ i, i < len → w.cell? ⟨b, off + i * 2, none⟩ = some (.int .i64 (f i).1) := fun i hi => by rw [← (hf i hi).1.1, add_plain]
      have hc1 : ∀ i, i < len → w.cell? ⟨b, off + i * 2 + 1, none⟩ = some (V1 i) := fun i hi => by rw [← (hf i hi).1.2.1, add_plain, Nat.add_assoc]
      have hb : b < w.heap.size := World.block_lt_of_cell? w ⟨b, off, none⟩ (u := .int .i64 (f 0).1) (by simpa using hc0 0 hpos)
      refine ⟨(List.range len).map fun i => ⟨(f i).1, (f i).2⟩, ⟨(List.range len).map fun i => ((f i).1, V1 i), .inr ⟨b, off, m, by simp, hb, hb, ⟨by simp; omega, by simpa using hl⟩, ?_⟩, by simp, ?_⟩, ?_⟩
      · intro j x hj t ht
        simp only [List.getElem?_map] at hj
        by_cases hjl : j < len
        · rw [List.getElem?_range hjl] at hj
          simp only [Option.map_some, Option.some.injEq] at hj
          subst hj
          match t, ht with
          | 0, _ => exact hc0 j hjl
          | 1, _ => exact hc1 j hjl
        · rw [List.getElem?_eq_none (by simp; omega)] at hj
          simp at hj
      · intro j h1 h2
        have hjl : j < len := by simpa using h1
        simp only [List.getElem_map, List.getElem_range]
        exact ⟨trivial, (hf j hjl).1.2.2⟩
      · intro o ho
        simp only [List.mem_map, List.mem_range] at ho
        obtain ⟨i, hi, rfl⟩ := ho
        exact (hf i hi).2

theorem list10 {α : Type} {l : List α} (h : l.length = 10) : ∃ c0 c1 c2 c3 c4 c5 c6 c7 c8 c9, l = [c0, c1, c2, c3, c4, c5, c6, c7, c8, c9] := by
  match l, h with
  | [c0, c1, c2, c3, c4, c5, c6, c7, c8, c9], _ => exact ⟨_, _, _, _, _, _, _, _, _, _, rfl⟩
theorem list7 {α : Type} {l : List α} (h : l.length = 7) : ∃ c0 c1 c2 c3 c4 c5 c6, l = [c0, c1, c2, c3, c4, c5, c6] := by
  match l, h with
  | [c0, c1, c2, c3, c4, c5, c6], _ => exact ⟨_, _, _, _, _, _, _, rfl⟩

set_option maxRecDepth 100000 in
theorem vm_rd {held : Bool} {r : Reach} {b0 : Nat} {v : Value} {d : DataW H} {p : List MemPlace} (hv : Value.okWide Try.prog w r b0 44 v) (h : DataW.Trod enc Try.prog w base (fun _ => true) held 44 v d p) :
    ∃ fv hv sv cv ov L, v = vmV fv hv sv cv ov L ∧ RdV w.heap.size w fv hv sv cv ov L ∧ vmIn L := by
  obtain ⟨cs, rfl, hsz⟩ := okWide_struct Try.underlying44 hv
  rw [show Try.prog.cellsOf 44 = 10 by kernel_rfl] at hsz
  obtain ⟨fuel, hf⟩ := h
  obtain ⟨xs, n, _, _, _, hlen, hfd⟩ := DataW.trod_struct Try.underlying44 hf
  obtain ⟨l⟩ := cs
  obtain ⟨c0, c1, c2, c3, c4, c5, c6, c7, c8, c9, rfl⟩ := list10 (l := l) (by simpa using hsz)
  obtain ⟨y0, y1, y2, y3, y4, y5, y6, rfl⟩ := list7 (l := xs) hlen
  have e1 : Try.prog.cellsOf 3 = 1 := by kernel_rfl
  have e2 : Try.prog.cellsOf 38 = 1 := by kernel_rfl
  have e3 : Try.prog.cellsOf 41 = 4 := by kernel_rfl
  have e4 : Try.prog.cellsOf 42 = 1 := by kernel_rfl
  have e5 : Try.prog.cellsOf 4 = 1 := by kernel_rfl
  have e6 : Try.prog.cellsOf 39 = 1 := by kernel_rfl
  have k0 : DataW.trod enc Try.prog w base (fun _ => true) held n 38 [c0] = some y0 := by
    have h1 := hfd 0 _ rfl
    change DataW.trod enc Try.prog w base (fun _ => true) held n 38 (([c0, c1, c2, c3, c4, c5, c6, c7, c8, c9].drop 0).take (Try.prog.cellsOf 38)) = some y0 at h1
    rw [e2] at h1
    exact h1
  have k1 : DataW.trod enc Try.prog w base (fun _ => true) held n 41 [c1, c2, c3, c4] = some y1 := by
    have h1 := hfd 1 _ rfl
    change DataW.trod enc Try.prog w base (fun _ => true) held n 41 (([c0, c1, c2, c3, c4, c5, c6, c7, c8, c9].drop 1).take (Try.prog.cellsOf 41)) = some y1 at h1
    rw [e3] at h1
    exact h1
  have k2 : DataW.trod enc Try.prog w base (fun _ => true) held n 39 [c5] = some y2 := by
    have h1 := hfd 2 _ rfl
    change DataW.trod enc Try.prog w base (fun _ => true) held n 39 (([c0, c1, c2, c3, c4, c5, c6, c7, c8, c9].drop 5).take (Try.prog.cellsOf 39)) = some y2 at h1
    rw [e6] at h1
    exact h1
  have k3 : DataW.trod enc Try.prog w base (fun _ => true) held n 42 [c6] = some y3 := by
    have h1 := hfd 3 _ rfl
    change DataW.trod enc Try.prog w base (fun _ => true) held n 42 (([c0, c1, c2, c3, c4, c5, c6, c7, c8, c9].drop 6).take (Try.prog.cellsOf 42)) = some y3 at h1
    rw [e4] at h1
    exact h1
  have k4 : DataW.trod enc Try.prog w base (fun _ => true) held n 39 [c7] = some y4 := by
    have h1 := hfd 4 _ rfl
    change DataW.trod enc Try.prog w base (fun _ => true) held n 39 (([c0, c1, c2, c3, c4, c5, c6, c7, c8, c9].drop 7).take (Try.prog.cellsOf 39)) = some y4 at h1
    rw [e6] at h1
    exact h1
  have k5 : DataW.trod enc Try.prog w base (fun _ => true) held n 3 [c8] = some y5 := by
    have h1 := hfd 5 _ rfl
    change DataW.trod enc Try.prog w base (fun _ => true) held n 3 (([c0, c1, c2, c3, c4, c5, c6, c7, c8, c9].drop 8).take (Try.prog.cellsOf 3)) = some y5 at h1
    rw [e1] at h1
    exact h1
  have k6 : DataW.trod enc Try.prog w base (fun _ => true) held n 4 [c9] = some y6 := by
    have h1 := hfd 6 _ rfl
    change DataW.trod enc Try.prog w base (fun _ => true) held n 4 (([c0, c1, c2, c3, c4, c5, c6, c7, c8, c9].drop 9).take (Try.prog.cellsOf 4)) = some y6 at h1
    rw [e5] at h1
    exact h1
  clear hfd hf hv
  obtain ⟨fs, rf, if_⟩ := funs_rd k0
  obtain ⟨x0, x1, x2, x3, m, _, _, g0, g1, g2, g3⟩ := Joins.trod_struct4 Try.underlying41 k1
  change DataW.trod enc Try.prog w base (fun _ => true) held m 39 (([c1, c2, c3, c4].drop 0).take (Try.prog.cellsOf 39)) = some x0 at g0
  change DataW.trod enc Try.prog w base (fun _ => true) held m 3 (([c1, c2, c3, c4].drop 1).take (Try.prog.cellsOf 3)) = some x1 at g1
  change DataW.trod enc Try.prog w base (fun _ => true) held m 3 (([c1, c2, c3, c4].drop 2).take (Try.prog.cellsOf 3)) = some x2 at g2
  change DataW.trod enc Try.prog w base (fun _ => true) held m 3 (([c1, c2, c3, c4].drop 3).take (Try.prog.cellsOf 3)) = some x3 at g3
  rw [e6] at g0
  rw [e1] at g1 g2 g3
  obtain ⟨zs, rz, iz⟩ := ints_rd Try.underlying39 Try.underlying3 (by kernel_rfl) g0
  obtain ⟨hh, hh2, ih⟩ := int_rd Try.underlying3 g1
  obtain ⟨hb, hb2, ib⟩ := int_rd Try.underlying3 g2
  obtain ⟨hn, hn2, in_⟩ := int_rd Try.underlying3 g3
  obtain ⟨ss, rs, is⟩ := ints_rd Try.underlying39 Try.underlying3 (by kernel_rfl) k2
  obtain ⟨cs, rc, ic⟩ := laws_calls_rd k3
  obtain ⟨os, ro, io⟩ := ints_rd Try.underlying39 Try.underlying3 (by kernel_rfl) k4
  obtain ⟨hc, hc2, icd⟩ := int_rd Try.underlying3 k5
  obtain ⟨bv, hbv, _⟩ := DataW.trod_bool Try.underlying4 k6
  simp only [List.cons.injEq, and_true] at hbv
  subst hh2 hb2 hn2 hc2 hbv
  exact ⟨c0, c1, c5, c6, c7, ⟨fs, zs, hh, hb, hn, ss, cs, os, hc, bv⟩, rfl, ⟨rf, rz, rs, rc, ro⟩, if_, iz, ih, ib, in_, is, ic, io, icd⟩
end

end Go.Proofs.Ytkpkofddfjgmpaa
