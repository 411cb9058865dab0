/- blockAt: where the kids lie: in the heap's own row. -/
import Derived.Test.YtmcoidnonmmpjaaBlockAt
namespace Go.Proofs.Ytmcoidnonmmpjaa
open Go.RowKit
set_option linter.unusedVariables false

/-- a run of m cells from a place on; nothing, where m is 0. -/
def LiesAt (u : Value) (bl at_ m : Nat) : Prop := ∃ a k c, u = .slice a k c ∧ k = m ∧ (m = 0 ∨ a = some ⟨bl, at_, none⟩)

set_option maxHeartbeats 800000 in
set_option maxRecDepth 100000 in
theorem blockAt_lies {B : Nat} (bl off cap : Nat) (ws : List Int) (h b n : Int) (p : Nat) (w : World) (hr : Rd B .i64 w (.slice (some ⟨bl, off, none⟩) ws.length cap) ws) (hw : intsOk ws) (hh : hOk (ws.getD p 0) = true) (hfit : p + 1 + hK (ws.getD p 0) ≤ ws.length) (hlen : ws.length ≤ 4294967296) :
    Calls Try.prog 52 #[.agg #[.slice (some ⟨bl, off, none⟩) ws.length cap, .int .i64 h, .int .i64 b, .int .i64 n], .int .i64 p] w fun e w' =>
      ∃ u, e = .returned (.tuple #[.bool (hFun (ws.getD p 0)), .int .i64 (hTag (ws.getD p 0)), u]) ∧ LiesAt u bl (off + (p + 1)) (hK (ws.getD p 0)) ∧ Below w.heap.size w w' := by
  rcases hr with ⟨hnil, _⟩ | ⟨bl', off', cap', hv, hB, hbs, hm, hc⟩
  · rw [hnil] at hfit; simp at hfit
  cases hv
  obtain ⟨hm1, hm2⟩ := hm
  have c2 := hc p (by omega)
  obtain ⟨x, hxx⟩ : ∃ x, ws.getD p 0 = x := ⟨_, rfl⟩
  have hx := hw p
  rw [hxx] at hx hh hfit c2 ⊢
  obtain ⟨hx0, hx1⟩ := hx
  have HX := Lib.hid hxx
  have hkn := hK_cast x
  have HKN := Lib.hid hkn
  have hkb := hKids_nonneg x
  rw [← hkn] at hkb
  obtain ⟨hkb1, hkb2⟩ := hkb
  clear hxx hkn hw hc
  by_cases hcp : cap = p + 1
  · have h0 : hK x = 0 := by omega
    subst hcp
    go_enter Try.func52, Try.ntmps52
    go_wp2_with fail
    refine (headed_ok _ _ hh hx1).mono ?_
    rw [← HKN.out]
    rintro e w' ⟨rfl, rfl⟩
    go_wp2_with fail
    go_quiet (fail)
    go_wp2
    go_ret3
    exact ⟨_, rfl, ⟨_, _, _, rfl, by omega, .inl (by omega)⟩, below_drewN ((Below.refl _ _).alloc (Nat.le_refl _) _) _⟩
  · go_enter Try.func52, Try.ntmps52
    go_wp2_with fail
    refine (headed_ok _ _ hh hx1).mono ?_
    rw [← HKN.out]
    rintro e w' ⟨rfl, rfl⟩
    go_wp2_with fail
    go_quiet (fail)
    go_wp2
    go_ret3
    exact ⟨_, rfl, ⟨_, _, _, rfl, by omega, .inr rfl⟩, below_drewN ((Below.refl _ _).alloc (Nat.le_refl _) _) _⟩

end Go.Proofs.Ytmcoidnonmmpjaa
