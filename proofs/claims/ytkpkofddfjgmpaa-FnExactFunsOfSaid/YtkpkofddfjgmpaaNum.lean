/- A reader's step: num (impl), l16Num (spec). -/
import Derived.Test.YtkpkofddfjgmpaaFunsOfP
import Derived.Test.YtkpkofddfjgmpaaOwnH
namespace Go.Proofs.Ytkpkofddfjgmpaa
open Go.RowKit
set_option linter.unusedVariables false
set_option linter.unusedSimpArgs false

/-- a reader's block turned to what the step makes; nothing else has. -/
def NumPost (g : Nat) (w : World) (bv : Value) (b : List Int) (i : Int) (ok : Bool) (e : Ending) (w' : World) : Prop :=
  ∃ (n i' : Int) (ok' : Bool), e = .returned (.int .i64 n) ∧ NumRel b i ok n i' ok' ∧ Bx w' g #[bv, .int .i64 i', .bool ok'] ∧ w.grownBy w' (some g) ∧ w'.heap.size = w.heap.size
theorem num_made {w : World} {nq g : Nat} {bv : Value} {b : List Int} {i n i' : Int} {ok ok' : Bool} {e : Ending} {j : Nat} {u : Value} (he : e = .returned (.int .i64 n)) (hk : Bx w g #[bv, .int .i64 i, .bool ok]) (hr : NumRel b i ok n i' ok')
    (hj : j < 3) (hs : (#[bv, .int .i64 i, .bool ok] : Array Value).setIfInBounds j u = #[bv, .int .i64 i', .bool ok']) :
    NumPost g w bv b i ok e ((w.drewN nq).setCell ⟨g, j, none⟩ u) := by
  have h1 : Bx (w.drewN nq) g #[bv, .int .i64 i, .bool ok] := hk.below (below_drewN (Below.refl w.heap.size w) nq) hk.1
  refine ⟨n, i', ok', he, hr, ?_, ?_, by simp⟩
  · rw [← hs]
    exact h1.put j (by simpa using hj) u
  · exact (World.grownBy.trans' (b := w.drewN nq) ⟨rfl, rfl, rfl, Nat.le_refl _, fun _ _ _ => rfl⟩ (grownBy.setCell _ g j u))
theorem getNum_cases {b : List Int} (hb : bytesOk b) (i : Int) : (∃ n j, getNum b i = (n, j, true) ∧ numAt b i = some (n, j)) ∨ (∃ n j, getNum b i = (n, j, false) ∧ numAt b i = none) := by
  obtain ⟨r, hr⟩ : ∃ r, getNum b i = r := ⟨_, rfl⟩
  obtain ⟨n, j, k⟩ := r
  cases k
  · exact .inr ⟨n, j, hr, by unfold numAt; rw [hr]; rfl⟩
  · exact .inl ⟨n, j, hr, by unfold numAt; rw [hr]; rfl⟩

set_option maxHeartbeats 800000 in
set_option maxRecDepth 100000 in
theorem iNum_any {B : Nat} (g : Nat) (bv : Value) (b : List Int) (i : Int) (ok : Bool) (w : World) (hk : Bx w g #[bv, .int .i64 i, .bool ok]) (hr : Rd B .u8 w bv b) (hb : bytesOk b) (h0 : 0 ≤ i) (h1 : i ≤ b.length) (hn : b.length ≤ 4294967296) :
    Calls Try.prog 87 #[.pointer (some ⟨g, 0, none⟩)] w (NumPost g w bv b i ok) := by
  have hg := fun (m : Nat) => (iGetNum_any bv b i (w.drewN m) (hr.below (below_drewN (Below.refl B w) m) (Nat.le_refl _)) hb (by omega) (by omega) hn).mono (fun e w' h => (⟨h.1, h.2⟩ : e = .returned (trip (getNum b i)) ∧ ∃ m', w' = (w.drewN m).drewN m'))
  have ck := hk.2.1
  have zk := hk.2.2
  have yk := hk.1
  have HK := Lib.hid hk
  obtain ⟨ba, bc, rfl⟩ := hr.form
  rcases getNum_cases hb i with ⟨n, j, e1, e2⟩ | ⟨n, j, e1, e2⟩
  · rw [e1] at hg
    unfold trip at hg
    dsimp only at hg
    have HG := Lib.hid hg
    have hbd := numAt_bound hb e2
    have HN := Lib.hid e2
    clear hg e1 e2 hk hr hb hn
    go_enter Try.func87, Try.ntmps87
    go_wp2_with fail
    go_quiet ((go_at_call 121; exact Calls.quiet_of (HG.out _)))
    go_wp2
    go_ret
    exact num_made rfl HK.out ⟨fun h => ⟨h, HN.out⟩, fun h => .inl h, by omega, by omega, by omega, by omega⟩ (by decide) rfl
  · rw [e1] at hg
    unfold trip at hg
    dsimp only at hg
    have HG := Lib.hid hg
    have HN := Lib.hid e2
    clear hg e1 e2 hk hr hb hn
    go_enter Try.func87, Try.ntmps87
    go_wp2_with fail
    go_quiet ((go_at_call 121; exact Calls.quiet_of (HG.out _)))
    go_wp2
    go_ret
    exact num_made rfl HK.out ⟨(fun h => by cases h), fun _ => .inr HN.out, Int.le_refl _, h1, by omega, by omega⟩ (by decide) rfl

set_option maxHeartbeats 800000 in
set_option maxRecDepth 100000 in
theorem sNum_any {B : Nat} (g : Nat) (bv : Value) (b : List Int) (i : Int) (ok : Bool) (w : World) (hk : Bx w g #[bv, .int .i64 i, .bool ok]) (hr : Rd B .u8 w bv b) (hb : bytesOk b) (h0 : 0 ≤ i) (h1 : i ≤ b.length) (hn : b.length ≤ 4294967296) :
    Calls Try.prog 86 #[.pointer (some ⟨g, 0, none⟩)] w (NumPost g w bv b i ok) := by
  have hg := fun (m : Nat) => (sGetNum_any bv b i (w.drewN m) (hr.below (below_drewN (Below.refl B w) m) (Nat.le_refl _)) hb (by omega) (by omega) hn).mono (fun e w' h => (⟨h.1, h.2⟩ : e = .returned (trip (getNum b i)) ∧ ∃ m', w' = (w.drewN m).drewN m'))
  have ck := hk.2.1
  have zk := hk.2.2
  have yk := hk.1
  have HK := Lib.hid hk
  obtain ⟨ba, bc, rfl⟩ := hr.form
  rcases getNum_cases hb i with ⟨n, j, e1, e2⟩ | ⟨n, j, e1, e2⟩
  · rw [e1] at hg
    unfold trip at hg
    dsimp only at hg
    have HG := Lib.hid hg
    have hbd := numAt_bound hb e2
    have HN := Lib.hid e2
    clear hg e1 e2 hk hr hb hn
    cases ok
    · go_enter Try.func86, Try.ntmps86
      go_wp2_with fail
      go_quiet ((go_at_call 120; exact Calls.quiet_of (HG.out _)))
      go_wp2
      go_ret
      exact num_made rfl HK.out ⟨(fun h => by cases h), fun _ => .inl rfl, Int.le_refl _, h1, by omega, by omega⟩ (by decide) rfl
    · go_enter Try.func86, Try.ntmps86
      go_wp2_with fail
      go_quiet ((go_at_call 120; exact Calls.quiet_of (HG.out _)))
      go_wp2
      go_ret
      exact num_made rfl HK.out ⟨fun h => ⟨rfl, HN.out⟩, fun h => (by cases h), by omega, by omega, by omega, by omega⟩ (by decide) rfl
  · rw [e1] at hg
    unfold trip at hg
    dsimp only at hg
    have HG := Lib.hid hg
    have HN := Lib.hid e2
    clear hg e1 e2 hk hr hb hn
    go_enter Try.func86, Try.ntmps86
    go_wp2_with fail
    go_quiet ((go_at_call 120; exact Calls.quiet_of (HG.out _)))
    go_wp2
    go_ret
    exact num_made rfl HK.out ⟨(fun h => by cases h), fun _ => .inr HN.out, Int.le_refl _, h1, by omega, by omega⟩ (by decide) rfl

end Go.Proofs.Ytkpkofddfjgmpaa
