/- The drawn numbers: ints of the machine. -/
import Derived.Test.YtkpkofddfjgmpaaDraw
namespace Go.Proofs.Ytkpkofddfjgmpaa
open Go.RowKit
set_option linter.unusedVariables false

theorem Rd.made {w x : World} {A : Array Value} {e : TypeId} (h : w.alloc (.cells A e) = x) (ys : List Int) (hA : A = (ys.map (Value.int .i64)).toArray) (hl : ys.length ≤ 4294967296) : Rd x.heap.size .i64 x (.slice (some ⟨w.heap.size, 0, none⟩) ys.length ys.length) ys := by
  subst hA
  obtain ⟨_, k⟩ := Bx.alloc h
  refine .inr ⟨w.heap.size, 0, ys.length, rfl, k.1, k.1, ⟨by unfold maxLen; omega, Nat.le_refl _⟩, fun j hj => ?_⟩
  rw [Nat.zero_add, k.2.1 j]
  simp [List.getD, List.getElem?_eq_getElem hj]
theorem all_in {ys : List Int} (h : ys.all (fun x => inB x (-9223372036854775808) 9223372036854775807) = true) {x : Int} (hx : x ∈ ys) : i64In x := by
  rw [List.all_eq_true] at h
  exact inB_true.1 (h x hx)

set_option maxHeartbeats 800000 in
set_option maxRecDepth 100000 in
theorem l1DrawAny_any {B g : Nat} (v : Value) (zs : List Int) (w : World) (hC : Cur w g v zs.length) (hr : Rd B .u8 w v zs) (hz : bytesIn zs) (hl : zs.length ≤ 4294967296) (hg : B ≤ g) :
    Calls Try.prog 59 #[.pointer (some ⟨g, 0, none⟩)] w fun e w' => (∃ x, e = .returned (.int .i64 x) ∧ i64In x) ∧ Below g w w' := by
  have hgw : g < w.heap.size := by obtain ⟨i, h, k, _⟩ := hC; exact k.1
  go_enter Try.func59, Try.ntmps59
  go_wp2_with fail
  generalize hx : w.alloc _ = x
  have ry := Rd.made hx [0, 1, -1, 5, 1073741823, 1073741824, -1073741824, -1073741825, 9223372036854775807, -9223372036854775808] rfl (by decide)
  obtain ⟨bx, _⟩ := Bx.alloc hx
  have C2 : Cur x g v zs.length := by obtain ⟨i, h, k, hh⟩ := hC; exact ⟨i, h, k.below bx k.1, hh⟩
  have HC := Lib.hid (l1PickInt_any v _ zs _ x C2 (hr.below (bx.mono (show B ≤ w.heap.size by omega)) (Nat.le_refl _)) hz hl hg ry (by decide) (by decide) (fun a n c h => by cases h; dsimp only; omega))
  have BX := Lib.hid bx
  clear hx ry bx C2 hC hr
  refine HC.out.mono ?_
  rintro e w1 ⟨⟨y, rfl, hy⟩, c1, g1⟩
  have b1 := Lib.hid ((BX.out.mono (Nat.le_of_lt hgw)).trans (Below.of_grown (B := g) g1 (by have := BX.out.size; omega) (fun k hk => by cases hk; exact Nat.le_refl _)))
  have HY := Lib.hid (all_in (by decide) hy)
  clear hy c1 g1 HC BX
  go_wp2
  go_ret
  exact ⟨⟨y, rfl, HY.out⟩, b1.out⟩

set_option maxHeartbeats 800000 in
set_option maxRecDepth 100000 in
theorem DrawIntWord_any {B : Nat} (v : Value) (zs : List Int) (w : World) (hr : Rd B .u8 w v zs) (hz : bytesIn zs) (hl : zs.length ≤ 4294967296) :
    Calls Try.prog 12 #[v] w fun e w' => (∃ x, e = .returned (.int .i64 x) ∧ i64In x) ∧ Below w.heap.size w w' := by
  have HN := Lib.hid (l1New_any v zs w hr hz hl)
  have RR := Lib.hid (fun (W : World) (hb : Below w.heap.size w W) => hr.below' hb)
  obtain ⟨a, c, rfl⟩ := hr.form
  clear hr
  go_enter Try.func12, Try.ntmps12
  go_wp2_with fail
  refine HN.out.mono ?_
  rintro e w1 ⟨⟨g, rfl, hg, c1⟩, b1⟩
  have HD := Lib.hid (l1DrawAny_any _ zs w1 c1 (RR.out _ b1) hz hl hg)
  have B1 := Lib.hid b1
  clear c1 b1
  go_wp2_with fail
  refine HD.out.mono ?_
  rintro e w2 ⟨⟨x, rfl, hx⟩, b2⟩
  have B2 := Lib.hid (B1.out.trans (b2.mono hg))
  have HX := Lib.hid hx
  clear b2 hx
  go_wp2
  go_ret
  exact ⟨⟨x, rfl, HX.out⟩, B2.out⟩

set_option maxHeartbeats 800000 in
set_option maxRecDepth 100000 in
theorem DrawRefWord_any {B : Nat} (v : Value) (zs : List Int) (w : World) (hr : Rd B .u8 w v zs) (hz : bytesIn zs) (hl : zs.length ≤ 4294967296) :
    Calls Try.prog 13 #[v] w fun e w' => (∃ x, e = .returned (.int .i64 x) ∧ i64In x) ∧ Below w.heap.size w w' := by
  have HN := Lib.hid (l1New_any v zs w hr hz hl)
  have RR := Lib.hid (fun (W : World) (hb : Below w.heap.size w W) => hr.below' hb)
  obtain ⟨a, c, rfl⟩ := hr.form
  clear hr
  go_enter Try.func13, Try.ntmps13
  go_wp2_with fail
  refine HN.out.mono ?_
  rintro e w1 ⟨⟨g, rfl, hg, c1⟩, b1⟩
  have hgw : g < w1.heap.size := by obtain ⟨i, h, k, _⟩ := c1; exact k.1
  go_wp2_with fail
  generalize hx : w1.alloc _ = x
  have ry := Rd.made hx [0, 1, 5, 6000, 6001, -1, 9223372036854775807] rfl (by decide)
  obtain ⟨bx, _⟩ := Bx.alloc hx
  have C2 : Cur x g (.slice a zs.length c) zs.length := by obtain ⟨i, h, k, hh⟩ := c1; exact ⟨i, h, k.below bx k.1, hh⟩
  have b2 := b1.trans (bx.mono b1.size)
  have HC := Lib.hid (l1PickInt_any (.slice a zs.length c) _ zs _ x C2 (RR.out _ b2) hz hl hg ry (by decide) (by decide) (fun a n c h => by cases h; dsimp only; omega))
  have B2 := Lib.hid b2
  have z2 := b2.size
  clear hx ry bx C2 c1 b1 b2
  refine HC.out.mono ?_
  rintro e w3 ⟨⟨y, rfl, hy⟩, c3, g3⟩
  have B3 := Lib.hid (B2.out.trans (Below.of_grown (B := w.heap.size) g3 z2 (fun k hk => by cases hk; exact hg)))
  have HY := Lib.hid (all_in (by decide) hy)
  clear hy c3 g3 HC B2
  go_wp2
  go_ret
  exact ⟨⟨y, rfl, HY.out⟩, B3.out⟩

set_option maxHeartbeats 800000 in
set_option maxRecDepth 100000 in
theorem DrawIsRef_any {B : Nat} (v : Value) (zs : List Int) (w : World) (hr : Rd B .u8 w v zs) (hz : bytesIn zs) (hl : zs.length ≤ 4294967296) :
    Calls Try.prog 18 #[v] w fun e w' => (∃ x, e = .returned (.int .i64 x) ∧ i64In x) ∧ Below w.heap.size w w' := by
  have HN := Lib.hid (l1New_any v zs w hr hz hl)
  have RR := Lib.hid (fun (W : World) (hb : Below w.heap.size w W) => hr.below' hb)
  obtain ⟨a, c, rfl⟩ := hr.form
  clear hr
  go_enter Try.func18, Try.ntmps18
  go_wp2_with fail
  refine HN.out.mono ?_
  rintro e w1 ⟨⟨g, rfl, hg, c1⟩, b1⟩
  have hgw : g < w1.heap.size := by obtain ⟨i, h, k, _⟩ := c1; exact k.1
  go_wp2_with fail
  generalize hx : w1.alloc _ = x
  have ry := Rd.made hx [0, 1, 2, 3, -1, -2, 9223372036854775807] rfl (by decide)
  obtain ⟨bx, _⟩ := Bx.alloc hx
  have C2 : Cur x g (.slice a zs.length c) zs.length := by obtain ⟨i, h, k, hh⟩ := c1; exact ⟨i, h, k.below bx k.1, hh⟩
  have b2 := b1.trans (bx.mono b1.size)
  have HC := Lib.hid (l1PickInt_any (.slice a zs.length c) _ zs _ x C2 (RR.out _ b2) hz hl hg ry (by decide) (by decide) (fun a n c h => by cases h; dsimp only; omega))
  have B2 := Lib.hid b2
  have z2 := b2.size
  clear hx ry bx C2 c1 b1 b2
  refine HC.out.mono ?_
  rintro e w3 ⟨⟨y, rfl, hy⟩, c3, g3⟩
  have B3 := Lib.hid (B2.out.trans (Below.of_grown (B := w.heap.size) g3 z2 (fun k hk => by cases hk; exact hg)))
  have HY := Lib.hid (all_in (by decide) hy)
  clear hy c3 g3 HC B2
  go_wp2
  go_ret
  exact ⟨⟨y, rfl, HY.out⟩, B3.out⟩

set_option maxHeartbeats 800000 in
set_option maxRecDepth 100000 in
theorem DrawWordInt_any {B : Nat} (v : Value) (zs : List Int) (w : World) (hr : Rd B .u8 w v zs) (hz : bytesIn zs) (hl : zs.length ≤ 4294967296) :
    Calls Try.prog 16 #[v] w fun e w' => (∃ x, e = .returned (.int .i64 x) ∧ i64In x) ∧ Below w.heap.size w w' := by
  have HN := Lib.hid (l1New_any v zs w hr hz hl)
  have RR := Lib.hid (fun (W : World) (hb : Below w.heap.size w W) => hr.below' hb)
  obtain ⟨a, c, rfl⟩ := hr.form
  clear hr
  go_enter Try.func16, Try.ntmps16
  go_wp2_with fail
  refine HN.out.mono ?_
  rintro e w1 ⟨⟨g, rfl, hg, c1⟩, b1⟩
  have hgw : g < w1.heap.size := by obtain ⟨i, h, k, _⟩ := c1; exact k.1
  go_wp2_with fail
  generalize hx : w1.alloc _ = x
  have ry := Rd.made hx [0, 1, 3, -1, -3, 11, 9223372036854775807, -9223372036854775808] rfl (by decide)
  obtain ⟨bx, _⟩ := Bx.alloc hx
  have C2 : Cur x g (.slice a zs.length c) zs.length := by obtain ⟨i, h, k, hh⟩ := c1; exact ⟨i, h, k.below bx k.1, hh⟩
  have b2 := b1.trans (bx.mono b1.size)
  have HC := Lib.hid (l1PickInt_any (.slice a zs.length c) _ zs _ x C2 (RR.out _ b2) hz hl hg ry (by decide) (by decide) (fun a n c h => by cases h; dsimp only; omega))
  have B2 := Lib.hid b2
  have z2 := b2.size
  clear hx ry bx C2 c1 b1 b2
  refine HC.out.mono ?_
  rintro e w3 ⟨⟨y, rfl, hy⟩, c3, g3⟩
  have B3 := Lib.hid (B2.out.trans (Below.of_grown (B := w.heap.size) g3 z2 (fun k hk => by cases hk; exact hg)))
  have HY := Lib.hid (all_in (by decide) hy)
  clear hy c3 g3 HC B2
  go_wp2
  go_ret
  exact ⟨⟨y, rfl, HY.out⟩, B3.out⟩

set_option maxHeartbeats 800000 in
theorem DrawWordRef_any {B : Nat} (v : Value) (zs : List Int) (w : World) (hr : Rd B .u8 w v zs) (hz : bytesIn zs) (hl : zs.length ≤ 4294967296) :
    Calls Try.prog 17 #[v] w fun e w' => (∃ x, e = .returned (.int .i64 x) ∧ i64In x) ∧ Below w.heap.size w w' := by
  have HN := Lib.hid (DrawWordInt_any v zs w hr hz hl)
  obtain ⟨a, c, rfl⟩ := hr.form
  clear hr
  go_enter Try.func17, Try.ntmps17
  go_wp2_with fail
  refine HN.out.mono ?_
  rintro e w1 ⟨⟨x, rfl, hx⟩, b1⟩
  have B1 := Lib.hid b1
  have HX := Lib.hid hx
  clear b1 hx
  go_wp2
  go_ret
  exact ⟨⟨x, rfl, HX.out⟩, B1.out⟩

set_option maxHeartbeats 800000 in
theorem big_any {B : Nat} (v : Value) (zs : List Int) (w : World) (hr : Rd B .u8 w v zs) :
    Calls Try.prog 11 #[v] w fun e w' => e = .returned (.bool (decide (1048576 < zs.length))) ∧ w = w' := by
  have hl := hr.len
  unfold maxLen at hl
  obtain ⟨a, c, rfl⟩ := hr.form
  clear hr
  go_enter Try.func11, Try.ntmps11
  go_wp2
  go_ret
  exact ⟨ret_bool (by rw [decide_eq_decide]; omega), rfl⟩

end Go.Proofs.Ytkpkofddfjgmpaa
