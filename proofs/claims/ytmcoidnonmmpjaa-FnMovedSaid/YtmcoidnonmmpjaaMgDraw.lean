import Derived.Test.YtmcoidnonmmpjaaRows
import Derived.Test.YtmcoidnonmmpjaaMem
import Derived.Test.YtmcoidnonmmpjaaScalar
import Derived.IntWalk
import Derived.Deep.AppendLies
/- What a draw's cursor is, and what is drawn: numbers within bounds. -/
namespace Go.Proofs.Ytmcoidnonmmpjaa
open Go.RowKit
set_option linter.unusedVariables false

/-- bytes. -/
def bytesIn (b : List Int) : Prop := ∀ j, 0 ≤ b.getD j 0 ∧ b.getD j 0 ≤ 255
def i64In (n : Int) : Prop := -9223372036854775808 ≤ n ∧ n ≤ 9223372036854775807
/-- a cursor over the bytes that v reads as. -/
structure Cur (w : World) (g : Nat) (v : Value) (m : Nat) : Prop where
  ex : ∃ (i : Nat) (h : Int), Bx w g #[v, .int .i64 i, .int .i64 h] ∧ i ≤ m ∧ i64In h
theorem wrap_in (x : Int) : i64In (wrap64 x) := by unfold wrap64 i64In; omega

set_option maxHeartbeats 800000 in
set_option maxRecDepth 100000 in
theorem l1New_any {B : Nat} (v : Value) (zs : List Int) (w : World) (hr : Rd B .u8 w v zs) (hz : bytesIn zs) (hl : zs.length ≤ 4294967296) :
    Calls Try.prog 31 #[v] w fun e w' => (∃ g, e = .returned (.pointer (some ⟨g, 0, none⟩)) ∧ w.heap.size ≤ g ∧ Cur w' g v zs.length) ∧ Below w.heap.size w w' := by
  obtain ⟨a, c, rfl⟩ := hr.form
  have hc : ∀ k, k < zs.length → ∃ b off, a = some ⟨b, off, none⟩ ∧ w.cell? ⟨b, off + k, none⟩ = some (.int .u8 (zs.getD k 0)) := by
    intro k hk
    rcases hr with ⟨h', _⟩ | ⟨b, off, c', hv, _, _, _, hcell⟩
    · rw [h'] at hk; simp at hk
    · cases hv; exact ⟨b, off, rfl, hcell k hk⟩
  have HC := Lib.hid hc
  clear hr hc
  go_enter Try.func31, Try.ntmps31
  go_wp2
  go_loop [3, 4] (fun t i => ∃ (k : Nat) (h : Int), k ≤ zs.length ∧ i = .int .i64 k ∧ t = .int .i64 h ∧ 0 ≤ h ∧ h ≤ 9223372036) (fun _ i => zs.length - (intOf i).toNat)
  case atStart => exact ⟨0, _, Nat.zero_le _, rfl, rfl, by omega, by omega⟩
  case round =>
    obtain ⟨k, h, hk, rfl, rfl, h0, h1⟩ := hrel
    by_cases hlt : k < zs.length
    · by_cases h4 : k < 4000
      · obtain ⟨b, off, rfl, c0⟩ := HC.out k hlt
        obtain ⟨x0, x1⟩ := hz k
        obtain ⟨x, hxx⟩ : ∃ x, zs.getD k 0 = x := ⟨_, rfl⟩
        rw [hxx] at c0 x0 x1
        have hki : (k : Int) < (zs.length : Int) := by omega
        have hk4 : (k : Int) < 4000 := by omega
        clear hxx hz
        go_wp2
        go_round
        case rel => exact ⟨k + 1, _, hlt, by go_num, rfl, by omega, by omega⟩
        case measure => simp [intOf]; omega
      · have hk4 : ¬ (k : Int) < 4000 := by omega
        have hki : (k : Int) < (zs.length : Int) := by omega
        go_wp2
        go_ret
        refine ⟨⟨w.heap.size, rfl, Nat.le_refl _, ⟨0, h, ?_, Nat.zero_le _, by unfold i64In; omega⟩⟩, (Below.refl _ _).alloc (Nat.le_refl _) _⟩
        exact (Bx.alloc rfl).2
    · have hki : ¬ (k : Int) < (zs.length : Int) := by omega
      go_wp2
      go_ret
      refine ⟨⟨w.heap.size, rfl, Nat.le_refl _, ⟨0, h, ?_, Nat.zero_le _, by unfold i64In; omega⟩⟩, (Below.refl _ _).alloc (Nat.le_refl _) _⟩
      exact (Bx.alloc rfl).2

theorem Bx.set_ {w : World} {g : Nat} {cur : Array Value} (h : Bx w g cur) (i : Nat) (hi : i < cur.size) (u : Value) : Bx (w.setCell ⟨g, i, none⟩ u) g (cur.setIfInBounds i u) := by
  refine ⟨by rw [World.size_setCell]; exact h.1, fun j => ?_, fun j => by rw [World.frozen?_setCell]; exact h.2.2 j⟩
  by_cases hj : i = j
  · subst hj
    rw [World.cell?_setCell_same _ _ _ ((h.2.1 i).trans (Array.getElem?_eq_getElem hi))]
    simp [hi]
  · rw [World.cell?_setCell_other _ _ _ _ (by intro he; injection he; exact hj (by assumption)), h.2.1 j, Array.getElem?_setIfInBounds_ne hj]
theorem drewN_grown (w : World) (n : Nat) (row : Option Nat) : w.grownBy (w.drewN n) row := ⟨rfl, rfl, rfl, Nat.le_refl _, fun _ _ _ => rfl⟩
def Byte (e : Ending) : Prop := ∃ x : Int, e = .returned (.int .i64 x) ∧ 0 ≤ x ∧ x ≤ 255

set_option maxHeartbeats 1600000 in
set_option maxRecDepth 100000 in
theorem l1Byte_any {B g : Nat} (v : Value) (zs : List Int) (w : World) (hC : Cur w g v zs.length) (hr : Rd B .u8 w v zs) (hz : bytesIn zs) (hl : zs.length ≤ 4294967296) (hg : B ≤ g) :
    Calls Try.prog 72 #[.pointer (some ⟨g, 0, none⟩)] w fun e w' => Byte e ∧ Cur w' g v zs.length ∧ w.grownBy w' (some g) := by
  obtain ⟨i, h, kb, hi, hh⟩ := hC
  obtain ⟨a, c, rfl⟩ := hr.form
  have hc : ∀ k, k < zs.length → ∃ b off, a = some ⟨b, off, none⟩ ∧ b ≠ g ∧ b < w.heap.size ∧ w.cell? ⟨b, off + k, none⟩ = some (.int .u8 (zs.getD k 0)) := by
    intro k hk
    rcases hr with ⟨h', _⟩ | ⟨b, off, c', hv, hB, hbs, _, hcell⟩
    · rw [h'] at hk; simp at hk
    · cases hv; exact ⟨b, off, rfl, by omega, hbs, hcell k hk⟩
  have HC := Lib.hid hc
  obtain ⟨h0, h1⟩ := hh
  have k2 := fun (x : Int) => kb.set_ 2 (by simp) (.int .i64 x)
  have q1 := kb.2.1
  have f1 := kb.2.2
  have K2 := Lib.hid k2
  clear hr hc k2 kb
  go_enter Try.func72, Try.ntmps72
  go_wp2_with fail
  generalize hx : w.setCell ⟨g, 2, none⟩ _ = w1
  have hy : ∃ y, i64In y ∧ w.setCell ⟨g, 2, none⟩ (.int .i64 y) = w1 := ⟨_, wrap_in _, hx⟩
  clear hx
  obtain ⟨y, hy0, rfl⟩ := hy
  have k2 := K2.out y
  have g2 := grownBy.setCell w g 2 (.int .i64 y)
  generalize hx : w.setCell ⟨g, 2, none⟩ (.int .i64 y) = w1 at k2 g2 ⊢
  clear hx q1 f1 K2
  have k2' : Bx w1 g #[.slice a zs.length c, .int .i64 i, .int .i64 y] := by simpa using k2
  have q1 := k2'.2.1
  clear k2
  go_quiet (fail)
  have k3 := k2'.below (below_drewN (Below.refl _ w1) nq) k2'.1
  have g3 := g2.trans' (drewN_grown w1 nq (some g))
  generalize hx : w1.drewN nq = w2 at k3 g3 ⊢
  clear hx q1 k2' g2 nq w1
  go_wp2_with fail
  obtain ⟨x, hxe⟩ : ∃ x, bits .xor .i64 (y / 8589934592) (y / 35184372088832) % 256 = x := ⟨_, rfl⟩
  have hx0 : 0 ≤ x := by rw [← hxe]; exact Int.emod_nonneg _ (by decide)
  have hx1 : x < 256 := by rw [← hxe]; exact Int.emod_lt_of_pos _ (by decide)
  rw [hxe]
  clear hxe
  have q1 := k3.2.1
  by_cases hlt : i < zs.length
  · obtain ⟨b, off, rfl, hbg, hbs, c0⟩ := HC.out i hlt
    obtain ⟨d, hd⟩ : ∃ d, zs.getD i 0 = d := ⟨_, rfl⟩
    obtain ⟨d0, d1⟩ := hz i
    rw [hd] at c0 d0 d1
    have c1 := (g3.cell_far ⟨b, off + i, none⟩ hbs (by intro h; exact hbg (Option.some.inj h))).trans c0
    have hii : (i : Int) < (zs.length : Int) := by omega
    clear hd hz c0
    go_quiet (fail)
    have k4 := k3.below (below_drewN (Below.refl _ w2) nq) k3.1
    have g4 := g3.trans' (drewN_grown w2 nq (some g))
    have c4 : (w2.drewN nq).cell? ⟨b, off + i, none⟩ = some (.int .u8 d) := c1
    generalize hx : w2.drewN nq = w3 at k4 g4 c4 ⊢
    clear hx q1 k3 g3 c1 nq w2
    have q1 := k4.2.1
    go_wp2_with fail
    go_quiet (fail)
    have k5 := k4.below (below_drewN (Below.refl _ w3) nq) k4.1
    have g5 := g4.trans' (drewN_grown w3 nq (some g))
    generalize hx : w3.drewN nq = w4 at k5 g5 ⊢
    clear hx q1 k4 g4 c4 nq w3
    have q1 := k5.2.1
    have f1 := k5.2.2
    have k6 := Lib.hid (k5.set_ 1 (by simp) (.int .i64 ((i : Int) + 1)))
    have g6 := Lib.hid (g5.trans' (grownBy.setCell w4 g 1 (.int .i64 ((i : Int) + 1))))
    clear k5 g5
    go_wp2
    go_ret
    exact ⟨⟨_, rfl, by omega, by omega⟩, ⟨i + 1, y, by simpa using k6.out, hlt, hy0⟩, g6.out⟩
  · have hii : ¬ (i : Int) < (zs.length : Int) := by omega
    clear hz HC
    go_quiet (fail)
    have k4 := k3.below (below_drewN (Below.refl _ w2) nq) k3.1
    have g4 := g3.trans' (drewN_grown w2 nq (some g))
    generalize hx : w2.drewN nq = w3 at k4 g4 ⊢
    clear hx q1 k3 g3 nq w2
    go_wp2
    go_ret
    exact ⟨⟨_, rfl, by omega, by omega⟩, ⟨i, y, k4, hi, hy0⟩, g4⟩

theorem Rd.grown_row {B g : Nat} {k : IntKind} {w w' : World} {v : Value} {zs : List Int} (h : Rd B k w v zs) (hg : w.grownBy w' (some g)) (hB : B ≤ g) : Rd B k w' v zs := by
  rcases h with h | ⟨b, off, cap, h1, h2, h3, h4, h5⟩
  · exact .inl h
  · exact .inr ⟨b, off, cap, h1, h2, Nat.lt_of_lt_of_le h3 hg.size, h4, fun j hj => (hg.cell_far ⟨b, off + j, none⟩ h3 (by intro h; have := Option.some.inj h; dsimp only at this; omega)).trans (h5 j hj)⟩
def Under (n : Int) (e : Ending) : Prop := ∃ r : Int, e = .returned (.int .i64 r) ∧ (n ≤ 0 → r = 0) ∧ (0 < n → 0 ≤ r ∧ r < n)

set_option maxHeartbeats 1600000 in
set_option maxRecDepth 100000 in
theorem l1Below_any {B g : Nat} (v : Value) (zs : List Int) (n : Int) (w : World) (hC : Cur w g v zs.length) (hr : Rd B .u8 w v zs) (hz : bytesIn zs) (hl : zs.length ≤ 4294967296) (hg : B ≤ g) (hn : i64In n) :
    Calls Try.prog 33 #[.pointer (some ⟨g, 0, none⟩), .int .i64 n] w fun e w' => Under n e ∧ Cur w' g v zs.length ∧ w.grownBy w' (some g) := by
  have HB := Lib.hid (fun (W : World) (hC : Cur W g v zs.length) (hr : Rd B .u8 W v zs) => l1Byte_any v zs W hC hr hz hl hg)
  obtain ⟨n0, n1⟩ := hn
  by_cases h0 : n ≤ 0
  · have Cc := hC
    clear HB hC hr
    go_enter Try.func33, Try.ntmps33
    go_wp2
    go_ret
    exact ⟨⟨0, rfl, fun _ => rfl, fun h => by omega⟩, Cc, grownBy.refl _ _⟩
  · have hp : 0 < n := by omega
    by_cases h256 : n ≤ 256
    · have HC := Lib.hid hC
      have HR := Lib.hid hr
      clear hC hr
      go_enter Try.func33, Try.ntmps33
      go_wp2_with fail
      refine (HB.out w HC.out HR.out).mono ?_
      rintro e w1 ⟨⟨x, rfl, x0, x1⟩, c1, g1⟩
      have C1 := Lib.hid c1
      have G1 := Lib.hid g1
      have m0 : 0 ≤ x % n := Int.emod_nonneg _ (by omega)
      have m1 : x % n < n := Int.emod_lt_of_pos _ hp
      clear c1 g1
      go_wp2
      go_ret
      exact ⟨⟨_, rfl, fun h => by omega, fun _ => ⟨m0, m1⟩⟩, C1.out, G1.out⟩
    · have HC := Lib.hid hC
      have HR := Lib.hid hr
      clear hC hr
      go_enter Try.func33, Try.ntmps33
      go_wp2_with fail
      refine (HB.out w HC.out HR.out).mono ?_
      rintro e w1 ⟨⟨x1, rfl, x10, x11⟩, c1, g1⟩
      have C1 := Lib.hid c1
      have G1 := Lib.hid g1
      clear c1 g1
      go_wp2_with fail
      refine (HB.out w1 C1.out (HR.out.grown_row G1.out hg)).mono ?_
      rintro e w2 ⟨⟨x2, rfl, x20, x21⟩, c2, g2⟩
      have C2 := Lib.hid c2
      have G2 := Lib.hid (G1.out.trans' g2)
      clear c2 g2
      go_wp2_with fail
      refine (HB.out w2 C2.out (HR.out.grown_row G2.out hg)).mono ?_
      rintro e w3 ⟨⟨x3, rfl, x30, x31⟩, c3, g3⟩
      have C3 := Lib.hid c3
      have G3 := Lib.hid (G2.out.trans' g3)
      clear c3 g3
      go_wp2_with fail
      refine (HB.out w3 C3.out (HR.out.grown_row G3.out hg)).mono ?_
      rintro e w4 ⟨⟨x4, rfl, x40, x41⟩, c4, g4⟩
      have C4 := Lib.hid c4
      have G4 := Lib.hid (G3.out.trans' g4)
      clear c4 g4
      have HM := Lib.hid (fun (y : Int) => And.intro (Int.emod_nonneg y (show n ≠ 0 by omega)) (Int.emod_lt_of_pos y hp))
      go_wp2
      go_ret
      exact ⟨⟨_, rfl, fun h => by omega, fun _ => HM.out _⟩, C4.out, G4.out⟩

set_option maxHeartbeats 1600000 in
set_option maxRecDepth 100000 in
theorem l1PickInt_any {B B2 g : Nat} (v u : Value) (zs ys : List Int) (w : World) (hC : Cur w g v zs.length) (hr : Rd B .u8 w v zs) (hz : bytesIn zs) (hl : zs.length ≤ 4294967296) (hg : B ≤ g)
    (hy : Rd B2 .i64 w u ys) (h0 : 0 < ys.length) (h1 : ys.length ≤ 4294967296) (hne : ∀ a n c, u = .slice (some a) n c → a.block ≠ g) :
    Calls Try.prog 35 #[.pointer (some ⟨g, 0, none⟩), u] w fun e w' => (∃ x, e = .returned (.int .i64 x) ∧ x ∈ ys) ∧ Cur w' g v zs.length ∧ w.grownBy w' (some g) := by
  have HB := Lib.hid (fun (W : World) (hC : Cur W g v zs.length) (hr : Rd B .u8 W v zs) => l1Below_any v zs ys.length W hC hr hz hl hg (by unfold i64In; omega))
  rcases hy with ⟨h', _⟩ | ⟨b, off, c, rfl, hb2, hbs, hm, hc⟩
  · rw [h'] at h0; simp at h0
  have hbg : b ≠ g := hne _ _ _ rfl
  have HC := Lib.hid hC
  have HR := Lib.hid hr
  have HY := Lib.hid hc
  clear hC hr hc hne
  go_enter Try.func35, Try.ntmps35
  go_wp2_with fail
  refine (HB.out w HC.out HR.out).mono ?_
  rintro e w1 ⟨⟨r, rfl, _, hr2⟩, c1, g1⟩
  obtain ⟨r0, r1⟩ := hr2 (by omega)
  obtain ⟨k, rfl⟩ := Int.eq_ofNat_of_zero_le r0
  have c0 := (g1.cell_far ⟨b, off + k, none⟩ hbs (by intro h; exact hbg (Option.some.inj h))).trans (HY.out k (by omega))
  have hmem : ys.getD k 0 ∈ ys := by
    rw [List.getD_eq_getElem?_getD, List.getElem?_eq_getElem (show k < ys.length by omega)]
    exact List.getElem_mem _
  obtain ⟨x, hx⟩ : ∃ x, ys.getD k 0 = x := ⟨_, rfl⟩
  rw [hx] at c0 hmem
  have C1 := Lib.hid c1
  have G1 := Lib.hid g1
  have HM := Lib.hid hmem
  clear c1 g1 hx hmem hr2
  go_wp2
  go_ret
  exact ⟨⟨x, rfl, HM.out⟩, C1.out, G1.out⟩

end Go.Proofs.Ytmcoidnonmmpjaa

/- The drawn numbers: ints of the machine. -/
namespace Go.Proofs.Ytmcoidnonmmpjaa
open Go.RowKit
set_option linter.unusedVariables false

theorem Rd.made {w x : World} {A : Array Value} {e : TypeId} (h : w.alloc (.cells A e) = x) (ys : List Int) (hA : A = (ys.map (Value.int .i64)).toArray) (hl : ys.length ≤ 4294967296) : Rd x.heap.size .i64 x (.slice (some ⟨w.heap.size, 0, none⟩) ys.length ys.length) ys := by
  subst hA
  obtain ⟨_, k⟩ := Bx.alloc h
  refine .inr ⟨w.heap.size, 0, ys.length, rfl, k.1, k.1, ⟨by unfold maxLen; omega, Nat.le_refl _⟩, fun j hj => ?_⟩
  rw [Nat.zero_add, k.2.1 j]
  simp [List.getD, List.getElem?_eq_getElem hj]
theorem all_in {ys : List Int} (h : ys.all (fun x => inB x (-9223372036854775808) 9223372036854775807) = true) {x : Int} (hx : x ∈ ys) : i64In x := by
  rw [List.all_eq_true] at h
  exact inB_true.1 (h x hx)

set_option maxHeartbeats 800000 in
theorem big_any {B : Nat} (v : Value) (zs : List Int) (w : World) (hr : Rd B .u8 w v zs) :
    Calls Try.prog 5 #[v] w fun e w' => e = .returned (.bool (decide (1048576 < zs.length))) ∧ w = w' := by
  have hl := hr.len
  unfold maxLen at hl
  obtain ⟨a, c, rfl⟩ := hr.form
  clear hr
  go_enter Try.func5, Try.ntmps5
  go_wp2
  go_ret
  exact ⟨ret_bool (by rw [decide_eq_decide]; omega), rfl⟩

end Go.Proofs.Ytmcoidnonmmpjaa
