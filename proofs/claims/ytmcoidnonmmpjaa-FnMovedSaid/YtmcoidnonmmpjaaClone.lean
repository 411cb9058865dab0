/- slices.Clone at ints: a copy in a row of its own. -/
import Derived.Test.YtmcoidnonmmpjaaRows
import Derived.Test.YtmcoidnonmmpjaaMem
import Derived.Lib.SliceRun
namespace Go.Proofs.Ytmcoidnonmmpjaa
open Go.RowKit
set_option linter.unusedVariables false

theorem Try.infoI2 : (Try.prog.info? 3).map (fun i => (i.zero, i.size, i.bytes)) = some (some (.int .i64 0), 1, 8) := by kernel_rfl
/-- the cells of what reads as zs. -/
theorem Rd.news {B : Nat} {k : IntKind} {w w' : World} {ad : Addr} {n cap : Nat} {zs : List Int} (h : Rd B k w (.slice (some ad) n cap) zs) (hb : Below w.heap.size w w') :
    n = zs.length ∧ ∀ j u, (zs.map (Value.int k))[j]? = some u → w'.cell? (ad.add j) = some u := by
  rcases h with ⟨rfl, a, c, hv⟩ | ⟨b, off, c, hv, _, hbs, _, hc⟩
  · cases hv
    exact ⟨rfl, fun j u hj => by simp at hj⟩
  · cases hv
    refine ⟨rfl, fun j u hj => ?_⟩
    have hjl : j < zs.length := by
      rw [List.getElem?_map] at hj
      by_cases h : j < zs.length
      · exact h
      · rw [List.getElem?_eq_none (by omega)] at hj; cases hj
    have hadd : (⟨b, off, none⟩ : Addr).add j = ⟨b, off + j, none⟩ := by unfold Addr.add; split <;> simp_all
    rw [hadd, hb.cell (p := ⟨b, off + j, none⟩) hbs, hc j hjl]
    rw [List.getElem?_map, List.getElem?_eq_getElem hjl] at hj
    rw [← hj]
    simp [List.getD, List.getElem?_eq_getElem hjl]
theorem Rd.none_nil {B : Nat} {k : IntKind} {w : World} {n cap : Nat} {zs : List Int} (h : Rd B k w (.slice none n cap) zs) : zs = [] := by
  rcases h with ⟨rfl, _⟩ | ⟨b, off, c, hv, _⟩
  · rfl
  · cases hv
theorem ints_one (k : IntKind) (zs : List Int) : ∀ u ∈ zs.map (Value.int k), u.oneCell' = true := by
  intro u hu
  obtain ⟨x, _, rfl⟩ := List.mem_map.1 hu
  rfl

set_option maxHeartbeats 400000 in
theorem clone_any {B : Nat} (v : Value) (zs : List Int) (w : World) (hr : Rd B .i64 w v zs) (hn : zs.length ≤ 4294967296) :
    Calls Try.prog 53 #[v] w fun e w' => ∃ v', e = .returned v' ∧ w'.ownsRow w.heap.size 3 1 v' zs.length (zs.map (Value.int .i64)) ∧ Below w.heap.size w w' := by
  obtain ⟨a, cap, rfl⟩ := hr.form
  have hrn := fun (w : World) (n c : Nat) (x : Option Addr) => Lib.run_eql_slice_nil (P := Try.prog) w 24 3 x n c 0 0 Try.underlying24
  obtain ⟨i0, hi, hz0, hz1, hz2⟩ := info_parts Try.infoI2
  cases a with
  | none =>
    have hz : zs = [] := hr.none_nil
    subst hz
    clear hr
    go_enter Try.func53, Try.ntmps53
    go_wp2
    go_ret
    exact ⟨_, rfl, World.ownsRow_nil _ _ _ _, Below.refl _ _⟩
  | some ad =>
    have hnew := (hr.news ((Below.refl w.heap.size w).alloc (Nat.le_refl _) (.cells #[] 3))).2
    have HN := Lib.hid hnew
    clear hr hnew
    go_enter Try.func53, Try.ntmps53
    go_wp2_with (at_builtin; refine wpList_append_own _ rfl _ _ 24 rfl w.heap.size 3 i0 (.int .i64 0) 1 8 Try.underlying24 hi hz0 hz1 hz2 rfl (by decide) _ 0 [] rfl ?_ ad zs.length cap (zs.map (Value.int .i64)) rfl (by simp) HN.out (ints_one _ _) ?_ ?_ ?_ ?_)
    · exact own_empty rfl (Nat.le_refl _)
    · unfold maxLen; omega
    · omega
    · simp
    · intro v' w1 ho hg _
      have hb : Below w.heap.size w w1 := ((Below.refl _ _).alloc (Nat.le_refl _) _).grown hg (by simp) (by intro k hk; simp [Value.ownBlock] at hk; omega)
      clear hg
      go_wp2
      go_ret
      exact ⟨_, rfl, ho, hb⟩

end Go.Proofs.Ytmcoidnonmmpjaa
