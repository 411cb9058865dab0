/- blockAt, BlockAt: what stands at the place of a block. -/
import Derived.Test.YtmcoidnonmmpjaaHeapOkS
import Derived.Test.YtmcoidnonmmpjaaRoom
import Derived.Test.YtmcoidnonmmpjaaClone
namespace Go.Proofs.Ytmcoidnonmmpjaa
open Go.RowKit
set_option linter.unusedVariables false

set_option maxHeartbeats 800000 in
set_option maxRecDepth 100000 in
theorem blockAt_any {B : Nat} (v : Value) (ws : List Int) (h b n : Int) (p : Nat) (w : World) (hr : Rd B .i64 w v ws) (hw : intsOk ws) (hh : hOk (ws.getD p 0) = true) (hfit : p + 1 + hK (ws.getD p 0) ≤ ws.length) (hlen : ws.length ≤ 4294967296) :
    Calls Try.prog 52 #[.agg #[v, .int .i64 h, .int .i64 b, .int .i64 n], .int .i64 p] w fun e w' =>
      ∃ u, e = .returned (.tuple #[.bool (hFun (ws.getD p 0)), .int .i64 (hTag (ws.getD p 0)), u]) ∧ Rd B .i64 w' u (kidsAt ws p) ∧ Below w.heap.size w w' := by
  rcases hr with ⟨hnil, _⟩ | ⟨bl, off, cap, rfl, hB, hbs, hm, hc⟩
  · rw [hnil] at hfit; simp at hfit
  obtain ⟨hm1, hm2⟩ := hm
  have c2 := hc p (by omega)
  have hkid := fun (W : World) (hb : Below w.heap.size w W) q c m hq hmm hmc => Rd.kids (B := B) (cap := c) (w := W) hB (Nat.lt_of_lt_of_le hbs hb.size) (fun j hj => (hb.cell (p := ⟨bl, off + j, none⟩) hbs).trans (hc j hj)) p c hfit hm1 q hq m hmm hmc
  have HK := Lib.hid hkid
  obtain ⟨x, hxx⟩ : ∃ x, ws.getD p 0 = x := ⟨_, rfl⟩
  have hx := hw p
  rw [hxx] at hx hh hfit c2 ⊢
  obtain ⟨hx0, hx1⟩ := hx
  have HX := Lib.hid hxx
  have hkn := hK_cast x
  have HKN := Lib.hid hkn
  have hkb := hKids_nonneg x
  rw [← hkn] at hkb
  obtain ⟨hkb1, hkb2⟩ := hkb
  clear hxx hkn hw hc hkid
  by_cases hcp : cap = p + 1
  · have h0 : hK x = 0 := by omega
    have hrd : ∀ (W : World) (m : Nat), m = hK x → Rd B .i64 W (.slice (some ⟨bl, off, none⟩) m 0) (kidsAt ws p) := fun W m hm => .inl ⟨by unfold kidsAt; rw [HX.out, h0]; simp, some ⟨bl, off, none⟩, 0, by rw [hm, h0]⟩
    have HRD := Lib.hid hrd
    clear h0 hrd
    subst hcp
    go_enter Try.func52, Try.ntmps52
    go_wp2_with fail
    refine (headed_ok _ _ hh hx1).mono ?_
    rw [← HKN.out]
    rintro e w' ⟨rfl, rfl⟩
    go_wp2_with fail
    go_quiet (fail)
    go_wp2
    go_ret3
    exact ⟨_, rfl, HRD.out _ _ (by omega), below_drewN ((Below.refl _ _).alloc (Nat.le_refl _) _) _⟩
  · go_enter Try.func52, Try.ntmps52
    go_wp2_with fail
    refine (headed_ok _ _ hh hx1).mono ?_
    rw [← HKN.out]
    rintro e w' ⟨rfl, rfl⟩
    go_wp2_with fail
    go_quiet (fail)
    go_wp2
    go_ret3
    exact ⟨_, rfl, HK.out _ (below_drewN ((Below.refl _ _).alloc (Nat.le_refl _) _) _) _ _ _ (by omega) (by rw [HX.out]; omega) (by omega), below_drewN ((Below.refl _ _).alloc (Nat.le_refl _) _) _⟩

/-- what is told of a block. -/
def blockOf (ws : List Int) (h b n p : Int) : Option Nat := if heapOk ws h b n then (match placesOf ws b.toNat n.toNat with | none => none | some ps => if p ∈ nums ps then some p.toNat else none) else none
def BlockTold (W : World) (ws : List Int) (e : Ending) (w' : World) (o : Option Nat) : Prop :=
  match o with
  | none => ∃ u, e = .returned (.tuple #[.bool false, .int .i64 0, u, .bool false]) ∧ w'.ownsRow W.heap.size 3 1 u 0 []
  | some p => ∃ u, e = .returned (.tuple #[.bool (hFun (ws.getD p 0)), .int .i64 (hTag (ws.getD p 0)), u, .bool true]) ∧ w'.ownsRow W.heap.size 3 1 u (kidsAt ws p).length ((kidsAt ws p).map (Value.int .i64))
theorem blockOf_not {ws : List Int} {h b n p : Int} (hok : heapOk ws h b n = false) : blockOf ws h b n p = none := by simp [blockOf, hok]
theorem blockOf_out {ws : List Int} {h b n : Nat} {p : Int} {ps : List Nat} (hok : heapOk ws h b n = true) (hp : placesOf ws b n = some ps) (hm : ¬ p ∈ nums ps) : blockOf ws h b n p = none := by simp [blockOf, hok, hp, hm]
theorem blockOf_in {ws : List Int} {h b n p : Nat} {ps : List Nat} (hok : heapOk ws h b n = true) (hp : placesOf ws b n = some ps) (hm : (p : Int) ∈ nums ps) : blockOf ws h b n p = some p := by simp [blockOf, hok, hp, hm]
theorem heapOk_some {ws : List Int} {h b n : Nat} (hok : heapOk ws h b n = true) : ∃ ps, placesOf ws b n = some ps := by
  cases hp : placesOf ws b n with
  | none => rw [heapOk_noplaces hp] at hok; cases hok
  | some ps => exact ⟨ps, rfl⟩

end Go.Proofs.Ytmcoidnonmmpjaa
