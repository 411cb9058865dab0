/- slices.Clone at ints: a copy in a row of its own. -/
import Derived.Test.YtlkdlcpfcacigaaRows
import Derived.Test.YtlkdlcpfcacigaaMgLib
import Derived.Lib.SliceRun
namespace Go.Proofs.Ytlkdlcpfcacigaa
open Go.RowKit
set_option linter.unusedVariables false

theorem Try.infoI2 : (Try.prog.info? 3).map (fun i => (i.zero, i.size, i.bytes)) = some (some (.int .i64 0), 1, 8) := by kernel_rfl
/-- the cells of what reads as zs. -/
theorem Rd.news {B : Nat} {k : IntKind} {w w' : World} {ad : Addr} {n cap : Nat} {zs : List Int} (h : Rd B k w (.slice (some ad) n cap) zs) (hb : Below w.heap.size w w') :
    n = zs.length ∧ ∀ j u, (zs.map (Value.int k))[j]? = some u → w'.cell? (ad.add j) = some u := by
  rcases h with ⟨rfl, a, c, hv⟩ | ⟨b, off, c, hv, _, hbs, _, hc⟩
  · cases hv
    exact ⟨rfl, fun j u hj => by simp at hj⟩
  · cases hv
    refine ⟨rfl, fun j u hj => ?_⟩
    have hjl : j < zs.length := by
      rw [List.getElem?_map] at hj
      by_cases h : j < zs.length
      · exact h
      · rw [List.getElem?_eq_none (by omega)] at hj; cases hj
    have hadd : (⟨b, off, none⟩ : Addr).add j = ⟨b, off + j, none⟩ := by unfold Addr.add; split <;> simp_all
    rw [hadd, hb.cell (p := ⟨b, off + j, none⟩) hbs, hc j hjl]
    rw [List.getElem?_map, List.getElem?_eq_getElem hjl] at hj
    rw [← hj]
    simp [List.getD, List.getElem?_eq_getElem hjl]
theorem Rd.none_nil {B : Nat} {k : IntKind} {w : World} {n cap : Nat} {zs : List Int} (h : Rd B k w (.slice none n cap) zs) : zs = [] := by
  rcases h with ⟨rfl, _⟩ | ⟨b, off, c, hv, _⟩
  · rfl
  · cases hv
theorem ints_one (k : IntKind) (zs : List Int) : ∀ u ∈ zs.map (Value.int k), u.oneCell' = true := by
  intro u hu
  obtain ⟨x, _, rfl⟩ := List.mem_map.1 hu
  rfl

end Go.Proofs.Ytlkdlcpfcacigaa
