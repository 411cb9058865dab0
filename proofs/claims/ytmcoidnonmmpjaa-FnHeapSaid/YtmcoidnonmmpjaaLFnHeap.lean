/- The law FnHeap returns true for every input that can be read as data, with no condition, and its arguments read as they did. -/
import Derived.Test.YtmcoidnonmmpjaaRows
import Derived.Test.YtmcoidnonmmpjaaMgOpen
import Derived.Test.YtmcoidnonmmpjaaMgDrawH
import Derived.Test.YtmcoidnonmmpjaaMgDraw
import Derived.Test.YtmcoidnonmmpjaaScalar
import Derived.Test.YtmcoidnonmmpjaaHeapL
import Derived.Test.YtmcoidnonmmpjaaHeapW
import Derived.Test.YtmcoidnonmmpjaaAllocI2
import Derived.Test.YtmcoidnonmmpjaaAllocS
import Derived.Test.YtmcoidnonmmpjaaBlockAt2
import Derived.Test.YtmcoidnonmmpjaaBlockAt3
import Derived.Test.YtmcoidnonmmpjaaRoom
import Derived.Test.YtmcoidnonmmpjaaHeapNew
import Derived.Test.YtmcoidnonmmpjaaHeapOkS
import Derived.Test.YtmcoidnonmmpjaaHeapOk
import Derived.Test.YtmcoidnonmmpjaaTold
namespace Go.Proofs.Ytmcoidnonmmpjaa.fnHeap
open Go.ChangeShapes Go.WideShapes Go.ChangeAt Go.RowKit
open Go.ChangeMaps (open_string shut_string)
set_option linter.unusedVariables false

theorem own : ownKnob Try.prog.godebug = none := by kernel_rfl
theorem laidOut : laidOutB Try.prog = true := by kernel_rfl

set_option maxHeartbeats 8000000 in
set_option maxRecDepth 100000 in
theorem walk (w : World) (u0 : Value) (z0 : List Int) (r0 : Rd w.heap.size .u8 w u0 z0) (i0 : bytesIn' z0) :
    Calls Try.prog 3 #[u0] w fun e w' => e = .returned (.bool true) ∧ Below w.heap.size w w' := by
  by_cases hbig : 1048576 < z0.length
  · have HB := Lib.hid (big_any u0 z0 w r0)
    rw [decide_eq_true hbig] at HB
    obtain ⟨a0, c0, rfl⟩ := r0.form
    clear r0 i0
    go_enter Try.func3, Try.ntmps3
    go_wp2_with fail
    refine HB.out.mono ?_
    rintro e w1 ⟨rfl, rfl⟩
    go_wp2
    go_ret
    exact ⟨rfl, Below.refl _ _⟩
  · have HB := Lib.hid (big_any u0 z0 w r0)
    rw [decide_eq_false hbig] at HB
    have HR := Lib.hid (fun (W : World) (hb : Below w.heap.size w W) => r0.below' hb)
    have H1 := Lib.hid (fun (W : World) (hb : Below w.heap.size w W) => DrawAlloc_any u0 z0 W (HR.out _ hb) i0 (by omega))
    have H2 := Lib.hid (fun (W : World) (hb : Below w.heap.size w W) => DrawBlockAt_any u0 z0 W (HR.out _ hb) i0 (by omega))
    have H3 := Lib.hid (fun (W : World) (hb : Below w.heap.size w W) => DrawRoom_any u0 z0 W (HR.out _ hb) i0 (by omega))
    have H4 := Lib.hid (fun (W : World) (hb : Below w.heap.size w W) => DrawHeapNew_any u0 z0 W (HR.out _ hb) i0 (by omega))
    obtain ⟨a0, c0, rfl⟩ := r0.form
    clear r0 i0
    have bb := Below.refl w.heap.size w
    go_enter Try.func3, Try.ntmps3
    go_wp2_with fail
    refine HB.out.mono ?_
    rintro e w1 ⟨rfl, rfl⟩
    clear HB hbig
    go_wp2_with fail
    refine (H1.out _ bb).mono ?_
    rintro e w1 ⟨⟨v1, ws, h, b, n, f, t, vk, ks, rfl, ⟨o1, hin⟩, ⟨o2, kin, kle⟩, hti⟩, b1⟩
    have lo1 : ∀ k, v1.ownBlock = some k → w.heap.size ≤ k := fun k hk => (o1.lt k hk).1
    have mo1 := own_lt o1
    have lo2 : ∀ k, vk.ownBlock = some k → w.heap.size ≤ k := fun k hk => (o2.lt k hk).1
    have mo2 := own_lt o2
    have zw1 := b1.size
    replace bb := bb.trans (b1.mono bb.size)
    clear b1
    obtain ⟨ao1, do1, rfl⟩ := own_form o1
    obtain ⟨ao2, do2, rfl⟩ := own_form o2
    have hwl := hin.le
    have hA1 := fun (B : Nat) (v vk : Value) (W : World) (hr : Rd B .i64 W v ws) (hk : Rd B .i64 W vk ks) => iAlloc_any v vk ws ks h b n f t W hr hin.ok (by omega) hk kin (by omega) hin.h hin.b hin.n
    have hA2 := fun (B : Nat) (v vk : Value) (W : World) (hr : Rd B .i64 W v ws) (hk : Rd B .i64 W vk ks) => sAlloc_any v vk ws ks h b n f t W hr hin.ok (by omega) hk kin (by omega) hin.h hin.b hin.n
    have hO1 := fun (B : Nat) (v : Value) (W : World) (hr : Rd B .i64 W v ws) => iHeapOk_any v ws h b n W hr hin.ok (by omega) hin.h hin.b hin.n
    have hO2 := fun (B : Nat) (v : Value) (W : World) (hr : Rd B .i64 W v ws) => sHeapOk_any v ws h b n W hr hin.ok (by omega) hin.h hin.b hin.n
    have hM1 := fun (B : Nat) (v : Value) (W : World) (hr : Rd B .i64 W v ws) => iRoom_any v ws h b n W hr hin.ok (by omega) hin.h hin.b hin.n
    have hPF := hin.alloc (f := f) (tag := t) kin
    have hno := fun hk => alloc_no (ws := ws) (h := h) (b := b) (n := n) (f := f) (tag := t) (ks := ks) hk
    have hyes := fun hk => alloc_ok (ws := ws) (h := h) (b := b) (n := n) (f := f) (tag := t) (ks := ks) hk
    obtain ⟨⟨qs, qn, qa, qk⟩, hQ⟩ : ∃ Q, allocOf ws h b n f t ks = Q := ⟨_, rfl⟩
    rw [hQ] at hA1 hA2 hPF hno hyes
    obtain ⟨hq, hql, hqa, _⟩ := hPF
    dsimp only at hq hql hqa
    have hO3 := fun (B : Nat) (v : Value) (W : World) (hr : Rd B .i64 W v qs) => iHeapOk_any v qs h b qn W hr hq.ok (by have := hq.le; omega) hq.h hq.b hq.n
    have hM3 := fun (B : Nat) (v : Value) (W : World) (hr : Rd B .i64 W v qs) => iRoom_any v qs h b qn W hr hq.ok (by have := hq.le; omega) hq.h hq.b hq.n
    have hB3 := fun (B : Nat) (v : Value) (W : World) (hr : Rd B .i64 W v qs) => iBlockAt_any v qs h b qn qa W hr hq.ok (by have := hq.le; omega) hq.h hq.b hq.n
    obtain ⟨hok, hoke⟩ : ∃ k, heapOk ws h b n = k := ⟨_, rfl⟩
    rw [hoke] at hO1 hO2
    have A1 := Lib.hid hA1
    have A2 := Lib.hid hA2
    have O1 := Lib.hid hO1
    have O2 := Lib.hid hO2
    have O3 := Lib.hid hO3
    have M1 := Lib.hid hM1
    have M3 := Lib.hid hM3
    have B3 := Lib.hid hB3
    have HNO := Lib.hid hno
    have HYES := Lib.hid hyes
    have HQL := Lib.hid hql
    have HQE := Lib.hid hoke
    have HKL := Lib.hid kle
    have HWL := Lib.hid hwl
    have hqq : (qa != qa) = false := by simp
    have hkk : (hok != hok) = false := by cases hok <;> rfl
    clear hA1 hA2 hO1 hO2 hO3 hM1 hM3 hB3 hno hyes hql hoke hQ hq hqa hin kin hti hwl kle
    cases qk
    · go_wp2_with fail
      generalize hx : w1.alloc _ = xk3
      obtain ⟨bx, k3⟩ := Bx.alloc hx
      clear hx
      replace o1 := own_below o1 bx (own_lt o1)
      replace o2 := own_below o2 bx (own_lt o2)
      have zxk3 := bx.size
      replace bb := bb.trans (bx.mono bb.size)
      clear bx
      have uk3 := k3.1
      refine (A1.out _ _ _ _ (Rd.of_own o1) (Rd.of_own o2)).mono ?_
      rintro e w2 ⟨⟨v3, rfl, o3⟩, b2⟩
      have lo3 : ∀ k, v3.ownBlock = some k → xk3.heap.size ≤ k := fun k hk => (o3.lt k hk).1
      have mo3 := own_lt o3
      replace k3 := k3.below b2 k3.1
      replace o1 := own_below o1 b2 (own_lt o1)
      replace o2 := own_below o2 b2 (own_lt o2)
      have zw2 := b2.size
      replace bb := bb.trans (b2.mono bb.size)
      clear b2
      obtain ⟨ao3, do3, rfl⟩ := own_form o3
      have ck3 := k3.2.1
      have yk3 := k3.1
      go_wp2_with fail
      clear ck3 yk3
      generalize hx : w2.alloc _ = xk7
      obtain ⟨bx, k7⟩ := Bx.alloc hx
      clear hx
      replace k3 := k3.below bx k3.1
      replace o1 := own_below o1 bx (own_lt o1)
      replace o2 := own_below o2 bx (own_lt o2)
      replace o3 := own_below o3 bx (own_lt o3)
      have zxk7 := bx.size
      replace bb := bb.trans (bx.mono bb.size)
      clear bx
      have uk7 := k7.1
      refine (A2.out _ _ _ _ (Rd.of_own o1) (Rd.of_own o2)).mono ?_
      rintro e w3 ⟨⟨v4, rfl, o4⟩, b3⟩
      have lo4 : ∀ k, v4.ownBlock = some k → xk7.heap.size ≤ k := fun k hk => (o4.lt k hk).1
      have mo4 := own_lt o4
      replace k3 := k3.below b3 k3.1
      replace k7 := k7.below b3 k7.1
      replace o1 := own_below o1 b3 (own_lt o1)
      replace o2 := own_below o2 b3 (own_lt o2)
      replace o3 := own_below o3 b3 (own_lt o3)
      have zw3 := b3.size
      replace bb := bb.trans (b3.mono bb.size)
      clear b3
      obtain ⟨ao4, do4, rfl⟩ := own_form o4
      go_upto_region 6 with fail
      generalize hx : w3.alloc _ = xk10
      obtain ⟨bx, k10⟩ := Bx.alloc hx
      clear hx
      replace k3 := k3.below bx k3.1
      replace k7 := k7.below bx k7.1
      replace o1 := own_below o1 bx (own_lt o1)
      replace o2 := own_below o2 bx (own_lt o2)
      replace o3 := own_below o3 bx (own_lt o3)
      replace o4 := own_below o4 bx (own_lt o4)
      have zxk10 := bx.size
      replace bb := bb.trans (bx.mono bb.size)
      clear bx
      have uk10 := k10.1
      have q0 := And.intro k3.four (And.intro k7.four (k10.four))
      refine wp_region_held_drew (S := (fun w' => (w'.cell? ⟨w1.heap.size, 0, none⟩ = some (.slice ao1 ws.length do1) ∧ w'.cell? ⟨w1.heap.size, 1, none⟩ = some (.int .i64 h) ∧ w'.cell? ⟨w1.heap.size, 2, none⟩ = some (.int .i64 b) ∧ w'.cell? ⟨w1.heap.size, 3, none⟩ = some (.int .i64 n)) ∧ (w'.cell? ⟨w2.heap.size, 0, none⟩ = some (.slice ao3 qs.length do3) ∧ w'.cell? ⟨w2.heap.size, 1, none⟩ = some (.int .i64 h) ∧ w'.cell? ⟨w2.heap.size, 2, none⟩ = some (.int .i64 b) ∧ w'.cell? ⟨w2.heap.size, 3, none⟩ = some (.int .i64 qn)) ∧ (w'.cell? ⟨w3.heap.size, 0, none⟩ = some (.slice ao4 qs.length do4) ∧ w'.cell? ⟨w3.heap.size, 1, none⟩ = some (.int .i64 h) ∧ w'.cell? ⟨w3.heap.size, 2, none⟩ = some (.int .i64 b) ∧ w'.cell? ⟨w3.heap.size, 3, none⟩ = some (.int .i64 qn)))) (by kernel_rfl) (by first | (dsimp only; exact q0) | (exact q0)) (fun hHeld => ?_)
      refine' wpAnyH_take (i := 0) (oi := _) (v := _) ?hi0n170 (by kernel_rfl) (by kernel_rfl) (by kernel_rfl) ?hQ0n170 ?hy0n170 (by assumption) ?rest0n170
      case hi0n170 => (simp only [List.getElem?_toArray, List.getElem?_cons_zero]; rfl)
      case hQ0n170 => exact fun _ _ _ h => h
      case hy0n170 => exact Or.inl ⟨by rfl, by (intro w hSw; (try dsimp only at hSw); go_simp; (try with_reducible rfl))⟩
      try simp only [Act.put, List.setIfInBounds_toArray, List.set_cons_zero, List.set_cons_succ]
      refine' wpAnyH_take (i := 1) (oi := _) (v := _) ?hi1n170 (by kernel_rfl) (by kernel_rfl) (by kernel_rfl) ?hQ1n170 ?hy1n170 (by assumption) ?rest1n170
      case hi1n170 => (simp only [List.getElem?_toArray, List.getElem?_cons_succ, List.getElem?_cons_zero]; rfl)
      case hQ1n170 => exact fun _ _ _ h => h
      case hy1n170 => exact Or.inl ⟨by rfl, by (intro w hSw; (try dsimp only at hSw); go_simp; (try with_reducible rfl))⟩
      try simp only [Act.put, List.setIfInBounds_toArray, List.set_cons_zero, List.set_cons_succ]
      refine' wpAnyH_take (i := 2) (oi := _) (v := _) ?hi2n170 (by kernel_rfl) (by kernel_rfl) (by kernel_rfl) ?hQ2n170 ?hy2n170 (by assumption) ?rest2n170
      case hi2n170 => (simp only [List.getElem?_toArray, List.getElem?_cons_succ, List.getElem?_cons_zero]; rfl)
      case hQ2n170 => exact fun _ _ _ h => h
      case hy2n170 => exact Or.inl ⟨by rfl, by (intro w hSw; (try dsimp only at hSw); go_simp; (try with_reducible rfl))⟩
      try simp only [Act.put, List.setIfInBounds_toArray, List.set_cons_zero, List.set_cons_succ]
      refine' wpAnyH_take (i := 3) (oi := _) (v := _) ?hi3n170 (by kernel_rfl) (by kernel_rfl) (by kernel_rfl) ?hQ3n170 ?hy3n170 (by assumption) ?rest3n170
      case hi3n170 => (simp only [List.getElem?_toArray, List.getElem?_cons_succ, List.getElem?_cons_zero]; rfl)
      case hQ3n170 => exact fun _ _ _ h => h
      case hy3n170 => exact Or.inl ⟨by rfl, by (intro w hSw; (try dsimp only at hSw); go_simp; (try with_reducible rfl))⟩
      try simp only [Act.put, List.setIfInBounds_toArray, List.set_cons_zero, List.set_cons_succ]
      refine' wpAnyH_take (i := 4) (oi := _) (v := _) ?hi4n170 (by kernel_rfl) (by kernel_rfl) (by kernel_rfl) ?hQ4n170 ?hy4n170 (by assumption) ?rest4n170
      case hi4n170 => (simp only [List.getElem?_toArray, List.getElem?_cons_succ, List.getElem?_cons_zero]; rfl)
      case hQ4n170 => exact fun _ _ _ h => h
      case hy4n170 => exact Or.inl ⟨by rfl, by (intro w hSw; (try dsimp only at hSw); go_simp; (try with_reducible rfl))⟩
      try simp only [Act.put, List.setIfInBounds_toArray, List.set_cons_zero, List.set_cons_succ]
      refine' wpAnyH_take (i := 5) (oi := _) (v := _) ?hi5n170 (by kernel_rfl) (by kernel_rfl) (by kernel_rfl) ?hQ5n170 ?hy5n170 (by assumption) ?rest5n170
      case hi5n170 => (simp only [List.getElem?_toArray, List.getElem?_cons_succ, List.getElem?_cons_zero]; rfl)
      case hQ5n170 => exact fun _ _ _ h => h
      case hy5n170 => exact Or.inl ⟨by rfl, by (intro w hSw; (try dsimp only at hSw); go_simp; (try with_reducible rfl))⟩
      try simp only [Act.put, List.setIfInBounds_toArray, List.set_cons_zero, List.set_cons_succ]
      refine' wpAnyH_take (i := 6) (oi := _) (v := _) ?hi6n170 (by kernel_rfl) (by kernel_rfl) (by kernel_rfl) ?hQ6n170 ?hy6n170 (by assumption) ?rest6n170
      case hi6n170 => (simp only [List.getElem?_toArray, List.getElem?_cons_succ, List.getElem?_cons_zero]; rfl)
      case hQ6n170 => exact fun _ _ _ h => h
      case hy6n170 => exact Or.inl ⟨by rfl, by (intro w hSw; (try dsimp only at hSw); go_simp; (try with_reducible rfl))⟩
      try simp only [Act.put, List.setIfInBounds_toArray, List.set_cons_zero, List.set_cons_succ]
      refine' wpAnyH_take (i := 7) (oi := _) (v := _) ?hi7n170 (by kernel_rfl) (by kernel_rfl) (by kernel_rfl) ?hQ7n170 ?hy7n170 (by assumption) ?rest7n170
      case hi7n170 => (simp only [List.getElem?_toArray, List.getElem?_cons_succ, List.getElem?_cons_zero]; rfl)
      case hQ7n170 => exact fun _ _ _ h => h
      case hy7n170 => exact Or.inl ⟨by rfl, by (intro w hSw; (try dsimp only at hSw); go_simp; (try with_reducible rfl))⟩
      try simp only [Act.put, List.setIfInBounds_toArray, List.set_cons_zero, List.set_cons_succ]
      refine' wpAnyH_take (i := 8) (oi := _) (v := _) ?hi8n170 (by kernel_rfl) (by kernel_rfl) (by kernel_rfl) ?hQ8n170 ?hy8n170 (by assumption) ?rest8n170
      case hi8n170 => (simp only [List.getElem?_toArray, List.getElem?_cons_succ, List.getElem?_cons_zero]; rfl)
      case hQ8n170 => exact fun _ _ _ h => h
      case hy8n170 => exact Or.inl ⟨by rfl, by (intro w hSw; (try dsimp only at hSw); go_simp; (try with_reducible rfl))⟩
      try simp only [Act.put, List.setIfInBounds_toArray, List.set_cons_zero, List.set_cons_succ]
      refine' wpAnyH_take (i := 9) (oi := _) (v := _) ?hi9n170 (by kernel_rfl) (by kernel_rfl) (by kernel_rfl) ?hQ9n170 ?hy9n170 (by assumption) ?rest9n170
      case hi9n170 => (simp only [List.getElem?_toArray, List.getElem?_cons_succ, List.getElem?_cons_zero]; rfl)
      case hQ9n170 => exact fun _ _ _ h => h
      case hy9n170 => exact Or.inl ⟨by rfl, by (intro w hSw; (try dsimp only at hSw); go_simp; (try with_reducible rfl))⟩
      try simp only [Act.put, List.setIfInBounds_toArray, List.set_cons_zero, List.set_cons_succ]
      refine' wpAnyH_take (i := 10) (oi := _) (v := _) ?hi10n170 (by kernel_rfl) (by kernel_rfl) (by kernel_rfl) ?hQ10n170 ?hy10n170 (by assumption) ?rest10n170
      case hi10n170 => (simp only [List.getElem?_toArray, List.getElem?_cons_succ, List.getElem?_cons_zero]; rfl)
      case hQ10n170 => exact fun _ _ _ h => h
      case hy10n170 => exact Or.inl ⟨by rfl, by (intro w hSw; (try dsimp only at hSw); go_simp; (try with_reducible rfl))⟩
      try simp only [Act.put, List.setIfInBounds_toArray, List.set_cons_zero, List.set_cons_succ]
      obtain ⟨xd4, hxw⟩ : ∃ xd, xk10.drew = xd := ⟨_, rfl⟩
      rw [hxw] at hHeld ⊢
      have bd : Below xk10.heap.size xk10 xd4 := by rw [← hxw]; exact (Below.refl _ _).drew
      clear hxw q0
      replace k3 := k3.below bd k3.1
      replace k7 := k7.below bd k7.1
      replace k10 := k10.below bd k10.1
      replace o1 := own_below o1 bd (own_lt o1)
      replace o2 := own_below o2 bd (own_lt o2)
      replace o3 := own_below o3 bd (own_lt o3)
      replace o4 := own_below o4 bd (own_lt o4)
      have zxd4 := bd.size
      replace bb := bb.trans (bd.mono bb.size)
      clear bd
      refine wpAnyH_ready (rs := [11]) (by kernel_rfl) (by simp) ?_
      refine AllReadyH.cons (by (simp only [List.getElem?_toArray, List.getElem?_cons_succ, List.getElem?_cons_zero]; rfl)) (fun K hK => ?_) AllReadyH.nil
      rw [if_pos (by rfl)]
      go_simp
      refine (sameHeap_same _ _ _ _ _ _ _ (Rd.of_own o3) (Rd.of_own o4)).mono ?_
      rintro e w5 ⟨rfl, b5⟩
      replace k3 := k3.below b5 k3.1
      replace k7 := k7.below b5 k7.1
      replace k10 := k10.below b5 k10.1
      replace o1 := own_below o1 b5 (own_lt o1)
      replace o2 := own_below o2 b5 (own_lt o2)
      replace o3 := own_below o3 b5 (own_lt o3)
      replace o4 := own_below o4 b5 (own_lt o4)
      have zw5 := b5.size
      replace bb := bb.trans (b5.mono bb.size)
      clear b5
      have q0 := And.intro k3.four (And.intro k7.four (k10.four))
      dsimp only
      refine hK.out _ _ (by first | (dsimp only; exact q0) | exact q0) (fun hHeld => ?_)
      clear q0 hK K
      try simp only [Act.put, List.setIfInBounds_toArray, List.set_cons_zero, List.set_cons_succ]
      refine' wpAnyH_take (i := 12) (oi := _) (v := _) ?hi12n206 (by kernel_rfl) (by kernel_rfl) (by kernel_rfl) ?hQ12n206 ?hy12n206 (by assumption) ?rest12n206
      case hi12n206 => (simp only [List.getElem?_toArray, List.getElem?_cons_succ, List.getElem?_cons_zero]; rfl)
      case hQ12n206 => exact fun _ _ _ h => h
      case hy12n206 => exact Or.inl ⟨by rfl, by (intro w hSw; (try dsimp only at hSw); go_simp; (try with_reducible rfl))⟩
      try simp only [Act.put, List.setIfInBounds_toArray, List.set_cons_zero, List.set_cons_succ]
      refine' wpAnyH_take (i := 13) (oi := _) (v := _) ?hi13n206 (by kernel_rfl) (by kernel_rfl) (by kernel_rfl) ?hQ13n206 ?hy13n206 (by assumption) ?rest13n206
      case hi13n206 => (simp only [List.getElem?_toArray, List.getElem?_cons_succ, List.getElem?_cons_zero]; rfl)
      case hQ13n206 => exact fun _ _ _ h => h
      case hy13n206 => exact Or.inl ⟨by rfl, by (intro w hSw; (try dsimp only at hSw); go_simp; (try with_reducible rfl))⟩
      try simp only [Act.put, List.setIfInBounds_toArray, List.set_cons_zero, List.set_cons_succ]
      refine' wpAnyH_take (i := 14) (oi := _) (v := _) ?hi14n206 (by kernel_rfl) (by kernel_rfl) (by kernel_rfl) ?hQ14n206 ?hy14n206 (by assumption) ?rest14n206
      case hi14n206 => (simp only [List.getElem?_toArray, List.getElem?_cons_succ, List.getElem?_cons_zero]; rfl)
      case hQ14n206 => exact fun _ _ _ h => h
      case hy14n206 => exact Or.inl ⟨by rfl, by (intro w hSw; (try dsimp only at hSw); go_simp; (try with_reducible rfl))⟩
      try simp only [Act.put, List.setIfInBounds_toArray, List.set_cons_zero, List.set_cons_succ]
      refine' wpAnyH_take (i := 15) (oi := _) (v := _) ?hi15n206 (by kernel_rfl) (by kernel_rfl) (by kernel_rfl) ?hQ15n206 ?hy15n206 (by assumption) ?rest15n206
      case hi15n206 => (simp only [List.getElem?_toArray, List.getElem?_cons_succ, List.getElem?_cons_zero]; rfl)
      case hQ15n206 => exact fun _ _ _ h => h
      case hy15n206 => exact Or.inl ⟨by rfl, by (intro w hSw; (try dsimp only at hSw); go_simp; (try with_reducible rfl))⟩
      try simp only [Act.put, List.setIfInBounds_toArray, List.set_cons_zero, List.set_cons_succ]
      refine' wpAnyH_take (i := 17) (oi := _) (v := _) ?hi17n206 (by kernel_rfl) (by kernel_rfl) (by kernel_rfl) ?hQ17n206 ?hy17n206 (by assumption) ?rest17n206
      case hi17n206 => (simp only [List.getElem?_toArray, List.getElem?_cons_succ, List.getElem?_cons_zero]; rfl)
      case hQ17n206 => exact fun _ _ _ h => h
      case hy17n206 => exact Or.inl ⟨by rfl, by (intro w hSw; (try dsimp only at hSw); go_simp; (try with_reducible rfl))⟩
      try simp only [Act.put, List.setIfInBounds_toArray, List.set_cons_zero, List.set_cons_succ]
      refine wpAnyH_ready (rs := [16]) (by kernel_rfl) (by simp) ?_
      refine AllReadyH.cons (by (simp only [List.getElem?_toArray, List.getElem?_cons_succ, List.getElem?_cons_zero]; rfl)) (fun K hK => ?_) AllReadyH.nil
      rw [if_pos (by rfl)]
      go_simp
      refine (O1.out _ _ _ (Rd.of_own o1)).mono ?_
      rintro e w6 ⟨rfl, b6⟩
      replace k3 := k3.below b6 k3.1
      replace k7 := k7.below b6 k7.1
      replace k10 := k10.below b6 k10.1
      replace o1 := own_below o1 b6 (own_lt o1)
      replace o2 := own_below o2 b6 (own_lt o2)
      replace o3 := own_below o3 b6 (own_lt o3)
      replace o4 := own_below o4 b6 (own_lt o4)
      have zw6 := b6.size
      replace bb := bb.trans (b6.mono bb.size)
      clear b6
      have q0 := And.intro k3.four (And.intro k7.four (k10.four))
      dsimp only
      refine hK.out _ _ (by first | (dsimp only; exact q0) | exact q0) (fun hHeld => ?_)
      clear q0 hK K
      try simp only [Act.put, List.setIfInBounds_toArray, List.set_cons_zero, List.set_cons_succ]
      refine wpAnyH_ready (rs := [18]) (by kernel_rfl) (by simp) ?_
      refine AllReadyH.cons (by (simp only [List.getElem?_toArray, List.getElem?_cons_succ, List.getElem?_cons_zero]; rfl)) (fun K hK => ?_) AllReadyH.nil
      rw [if_pos (by rfl)]
      go_simp
      refine (O2.out _ _ _ (Rd.of_own o1)).mono ?_
      rintro e w7 ⟨rfl, b7⟩
      replace k3 := k3.below b7 k3.1
      replace k7 := k7.below b7 k7.1
      replace k10 := k10.below b7 k10.1
      replace o1 := own_below o1 b7 (own_lt o1)
      replace o2 := own_below o2 b7 (own_lt o2)
      replace o3 := own_below o3 b7 (own_lt o3)
      replace o4 := own_below o4 b7 (own_lt o4)
      have zw7 := b7.size
      replace bb := bb.trans (b7.mono bb.size)
      clear b7
      have q0 := And.intro k3.four (And.intro k7.four (k10.four))
      dsimp only
      refine hK.out _ _ (by first | (dsimp only; exact q0) | exact q0) (fun hHeld => ?_)
      clear q0 hK K
      try simp only [Act.put, List.setIfInBounds_toArray, List.set_cons_zero, List.set_cons_succ]
      refine' wpAnyH_take (i := 19) (oi := _) (v := _) ?hi19n249 (by kernel_rfl) (by kernel_rfl) (by kernel_rfl) ?hQ19n249 ?hy19n249 (by assumption) ?rest19n249
      case hi19n249 => (simp only [List.getElem?_toArray, List.getElem?_cons_succ, List.getElem?_cons_zero]; rfl)
      case hQ19n249 => exact fun _ _ _ h => h
      case hy19n249 => exact Or.inl ⟨by rfl, by (intro w hSw; (try dsimp only at hSw); go_simp; (try with_reducible rfl))⟩
      try simp only [Act.put, List.setIfInBounds_toArray, List.set_cons_zero, List.set_cons_succ]
      refine' wpAnyH_take (i := 20) (oi := _) (v := _) ?hi20n249 (by kernel_rfl) (by kernel_rfl) (by kernel_rfl) ?hQ20n249 ?hy20n249 (by assumption) ?rest20n249
      case hi20n249 => (simp only [List.getElem?_toArray, List.getElem?_cons_succ, List.getElem?_cons_zero]; rfl)
      case hQ20n249 => exact fun _ _ _ h => h
      case hy20n249 => exact Or.inl ⟨by rfl, by (intro w hSw; (try dsimp only at hSw); go_simp; (try with_reducible rfl))⟩
      try simp only [Act.put, List.setIfInBounds_toArray, List.set_cons_zero, List.set_cons_succ]
      refine wpAnyH_done (by kernel_rfl) ?_ _
      clear hHeld
      clear lo4 mo4
      clear o4 k10
      go_wp2_with fail
      refine (H2.out _ bb).mono ?_
      rintro e w8 ⟨⟨v5, xs, xh, xb, xn, xp, rfl, ⟨o5, xin⟩, hxp⟩, b8⟩
      have lo5 : ∀ k, v5.ownBlock = some k → w7.heap.size ≤ k := fun k hk => (o5.lt k hk).1
      have mo5 := own_lt o5
      replace k3 := k3.below b8 k3.1
      replace k7 := k7.below b8 k7.1
      replace o1 := own_below o1 b8 (own_lt o1)
      replace o2 := own_below o2 b8 (own_lt o2)
      replace o3 := own_below o3 b8 (own_lt o3)
      have zw8 := b8.size
      replace bb := bb.trans (b8.mono bb.size)
      clear b8
      obtain ⟨ao5, do5, rfl⟩ := own_form o5
      obtain ⟨bf, bt, bz, bo, hbz, hB⟩ := told_form xs (blockOf xs xh xb xn xp)
      have hxl := xin.le
      have hB1 := fun (B : Nat) (v : Value) (W : World) (hr : Rd B .i64 W v xs) => (iBlockAt_any v xs xh xb xn xp W hr xin.ok (by omega) xin.h xin.b xin.n).mono (fun e w' hh => And.intro (hB W e w' hh.1) hh.2)
      have hB2 := fun (B : Nat) (v : Value) (W : World) (hr : Rd B .i64 W v xs) => (sBlockAt_any v xs xh xb xn xp W hr xin.ok (by omega) xin.h xin.b xin.n).mono (fun e w' hh => And.intro (hB W e w' hh.1) hh.2)
      have B1 := Lib.hid hB1
      have B2 := Lib.hid hB2
      have hbo : (bo != bo) = false := by cases bo <;> rfl
      have hbf : (bf != bf) = false := by cases bf <;> rfl
      have hbt : (bt != bt) = false := by simp
      clear hB1 hB2 hB xin hxp hbz hxl
      go_wp2_with fail
      generalize hx : w8.alloc _ = xk13
      obtain ⟨bx, k13⟩ := Bx.alloc hx
      clear hx
      replace k3 := k3.below bx k3.1
      replace k7 := k7.below bx k7.1
      replace o1 := own_below o1 bx (own_lt o1)
      replace o2 := own_below o2 bx (own_lt o2)
      replace o3 := own_below o3 bx (own_lt o3)
      replace o5 := own_below o5 bx (own_lt o5)
      have zxk13 := bx.size
      replace bb := bb.trans (bx.mono bb.size)
      clear bx
      have uk13 := k13.1
      refine (B1.out _ _ _ (Rd.of_own o5)).mono ?_
      rintro e w9 ⟨⟨u6, rfl, o6⟩, b9⟩
      have lo6 : ∀ k, u6.ownBlock = some k → xk13.heap.size ≤ k := fun k hk => (o6.lt k hk).1
      have mo6 := own_lt o6
      replace k3 := k3.below b9 k3.1
      replace k7 := k7.below b9 k7.1
      replace k13 := k13.below b9 k13.1
      replace o1 := own_below o1 b9 (own_lt o1)
      replace o2 := own_below o2 b9 (own_lt o2)
      replace o3 := own_below o3 b9 (own_lt o3)
      replace o5 := own_below o5 b9 (own_lt o5)
      have zw9 := b9.size
      replace bb := bb.trans (b9.mono bb.size)
      clear b9
      obtain ⟨ao6, do6, rfl⟩ := own_form o6
      have ck13 := k13.2.1
      have yk13 := k13.1
      go_wp2_with fail
      clear ck13 yk13
      refine (B2.out _ _ _ (Rd.of_own o5)).mono ?_
      rintro e w10 ⟨⟨u7, rfl, o7⟩, b10⟩
      have lo7 : ∀ k, u7.ownBlock = some k → w9.heap.size ≤ k := fun k hk => (o7.lt k hk).1
      have mo7 := own_lt o7
      replace k3 := k3.below b10 k3.1
      replace k7 := k7.below b10 k7.1
      replace k13 := k13.below b10 k13.1
      replace o1 := own_below o1 b10 (own_lt o1)
      replace o2 := own_below o2 b10 (own_lt o2)
      replace o3 := own_below o3 b10 (own_lt o3)
      replace o5 := own_below o5 b10 (own_lt o5)
      replace o6 := own_below o6 b10 (own_lt o6)
      have zw10 := b10.size
      replace bb := bb.trans (b10.mono bb.size)
      clear b10
      obtain ⟨ao7, do7, rfl⟩ := own_form o7
      clear lo5 mo5
      clear o5 k13
      go_wp2_with fail
      refine (H3.out _ bb).mono ?_
      rintro e w11 ⟨⟨v8, rs, rh, rb, rn, rfl, ⟨o8, rin⟩⟩, b11⟩
      have lo8 : ∀ k, v8.ownBlock = some k → w10.heap.size ≤ k := fun k hk => (o8.lt k hk).1
      have mo8 := own_lt o8
      replace k3 := k3.below b11 k3.1
      replace k7 := k7.below b11 k7.1
      replace o1 := own_below o1 b11 (own_lt o1)
      replace o2 := own_below o2 b11 (own_lt o2)
      replace o3 := own_below o3 b11 (own_lt o3)
      replace o6 := own_below o6 b11 (own_lt o6)
      replace o7 := own_below o7 b11 (own_lt o7)
      have zw11 := b11.size
      replace bb := bb.trans (b11.mono bb.size)
      clear b11
      obtain ⟨ao8, do8, rfl⟩ := own_form o8
      have hrl := rin.le
      have hM4 := fun (B : Nat) (v : Value) (W : World) (hr : Rd B .i64 W v rs) => iRoom_any v rs rh rb rn W hr rin.ok (by omega) rin.h rin.b rin.n
      have hM5 := fun (B : Nat) (v : Value) (W : World) (hr : Rd B .i64 W v rs) => sRoom_any v rs rh rb rn W hr rin.ok (by omega) rin.h rin.b rin.n
      obtain ⟨rm, hrm⟩ : ∃ r, roomOf rs rh rb rn = r := ⟨_, rfl⟩
      rw [hrm] at hM4 hM5
      have M4 := Lib.hid hM4
      have M5 := Lib.hid hM5
      have hrr : (rm != rm) = false := by simp
      clear hM4 hM5 hrm rin hrl
      go_wp2_with fail
      generalize hx : w11.alloc _ = xk23
      obtain ⟨bx, k23⟩ := Bx.alloc hx
      clear hx
      replace k3 := k3.below bx k3.1
      replace k7 := k7.below bx k7.1
      replace o1 := own_below o1 bx (own_lt o1)
      replace o2 := own_below o2 bx (own_lt o2)
      replace o3 := own_below o3 bx (own_lt o3)
      replace o6 := own_below o6 bx (own_lt o6)
      replace o7 := own_below o7 bx (own_lt o7)
      replace o8 := own_below o8 bx (own_lt o8)
      have zxk23 := bx.size
      replace bb := bb.trans (bx.mono bb.size)
      clear bx
      have uk23 := k23.1
      refine (H4.out _ bb).mono ?_
      rintro e w12 ⟨⟨nn, rfl, hnn⟩, b12⟩
      replace k3 := k3.below b12 k3.1
      replace k7 := k7.below b12 k7.1
      replace k23 := k23.below b12 k23.1
      replace o1 := own_below o1 b12 (own_lt o1)
      replace o2 := own_below o2 b12 (own_lt o2)
      replace o3 := own_below o3 b12 (own_lt o3)
      replace o6 := own_below o6 b12 (own_lt o6)
      replace o7 := own_below o7 b12 (own_lt o7)
      replace o8 := own_below o8 b12 (own_lt o8)
      have zw12 := b12.size
      replace bb := bb.trans (b12.mono bb.size)
      clear b12
      have hN1 := fun (W : World) => iHeapNew_any nn W
      have hN2 := fun (W : World) => sHeapNew_any nn W
      have hnl := newWords_len nn
      have hNO := fun (hm : inB nn 1 3000 = true) (B : Nat) (v : Value) (W : World) (hr : Rd B .i64 W v (newWords nn)) => iHeapOk_new hnn hm v W hr
      obtain ⟨nw, hnw⟩ : ∃ r, newWords nn = r := ⟨_, rfl⟩
      rw [hnw] at hN1 hN2 hnl hNO
      obtain ⟨mk, hmk⟩ : ∃ r, inB nn 1 3000 = r := ⟨_, rfl⟩
      rw [hmk] at hN1 hN2 hNO
      have N1 := Lib.hid hN1
      have N2 := Lib.hid hN2
      have NO := Lib.hid hNO
      clear hN1 hN2 hNO hnw hmk hnn hnl
      cases mk
      · have q1 := N1.out
        have q2 := N2.out
        rw [if_neg (by decide)] at q1 q2
        have N1' := Lib.hid q1
        have N2' := Lib.hid q2
        clear N1 N2 NO q1 q2
        go_wp2_with fail
        refine (N1'.out _).mono ?_
        rintro e w13 ⟨v9, rfl, o9, b13⟩
        have lo9 : ∀ k, v9.ownBlock = some k → w12.heap.size ≤ k := fun k hk => (o9.lt k hk).1
        have mo9 := own_lt o9
        replace k3 := k3.below b13 k3.1
        replace k7 := k7.below b13 k7.1
        replace k23 := k23.below b13 k23.1
        replace o1 := own_below o1 b13 (own_lt o1)
        replace o2 := own_below o2 b13 (own_lt o2)
        replace o3 := own_below o3 b13 (own_lt o3)
        replace o6 := own_below o6 b13 (own_lt o6)
        replace o7 := own_below o7 b13 (own_lt o7)
        replace o8 := own_below o8 b13 (own_lt o8)
        have zw13 := b13.size
        replace bb := bb.trans (b13.mono bb.size)
        clear b13
        obtain ⟨ao9, do9, rfl⟩ := own_form o9
        go_wp2_with fail
        generalize hx : w13.alloc _ = xk25
        obtain ⟨bx, k25⟩ := Bx.alloc hx
        clear hx
        replace k3 := k3.below bx k3.1
        replace k7 := k7.below bx k7.1
        replace k23 := k23.below bx k23.1
        replace o1 := own_below o1 bx (own_lt o1)
        replace o2 := own_below o2 bx (own_lt o2)
        replace o3 := own_below o3 bx (own_lt o3)
        replace o6 := own_below o6 bx (own_lt o6)
        replace o7 := own_below o7 bx (own_lt o7)
        replace o8 := own_below o8 bx (own_lt o8)
        replace o9 := own_below o9 bx (own_lt o9)
        have zxk25 := bx.size
        replace bb := bb.trans (bx.mono bb.size)
        clear bx
        have uk25 := k25.1
        refine (N2'.out _).mono ?_
        rintro e w14 ⟨v10, rfl, o10, b14⟩
        have lo10 : ∀ k, v10.ownBlock = some k → xk25.heap.size ≤ k := fun k hk => (o10.lt k hk).1
        have mo10 := own_lt o10
        replace k3 := k3.below b14 k3.1
        replace k7 := k7.below b14 k7.1
        replace k23 := k23.below b14 k23.1
        replace k25 := k25.below b14 k25.1
        replace o1 := own_below o1 b14 (own_lt o1)
        replace o2 := own_below o2 b14 (own_lt o2)
        replace o3 := own_below o3 b14 (own_lt o3)
        replace o6 := own_below o6 b14 (own_lt o6)
        replace o7 := own_below o7 b14 (own_lt o7)
        replace o8 := own_below o8 b14 (own_lt o8)
        replace o9 := own_below o9 b14 (own_lt o9)
        have zw14 := b14.size
        replace bb := bb.trans (b14.mono bb.size)
        clear b14
        obtain ⟨ao10, do10, rfl⟩ := own_form o10
        go_upto_region 15 with fail
        generalize hx : w14.alloc _ = xk27
        obtain ⟨bx, k27⟩ := Bx.alloc hx
        clear hx
        replace k3 := k3.below bx k3.1
        replace k7 := k7.below bx k7.1
        replace k23 := k23.below bx k23.1
        replace k25 := k25.below bx k25.1
        replace o1 := own_below o1 bx (own_lt o1)
        replace o2 := own_below o2 bx (own_lt o2)
        replace o3 := own_below o3 bx (own_lt o3)
        replace o6 := own_below o6 bx (own_lt o6)
        replace o7 := own_below o7 bx (own_lt o7)
        replace o8 := own_below o8 bx (own_lt o8)
        replace o9 := own_below o9 bx (own_lt o9)
        replace o10 := own_below o10 bx (own_lt o10)
        have zxk27 := bx.size
        replace bb := bb.trans (bx.mono bb.size)
        clear bx
        have uk27 := k27.1
        clear lo10 mo10
        clear k27 o10
        have q0 := And.intro k23.four (k25.four)
        refine wp_region_held_drew (S := (fun w' => (w'.cell? ⟨w11.heap.size, 0, none⟩ = some (.slice ao8 rs.length do8) ∧ w'.cell? ⟨w11.heap.size, 1, none⟩ = some (.int .i64 rh) ∧ w'.cell? ⟨w11.heap.size, 2, none⟩ = some (.int .i64 rb) ∧ w'.cell? ⟨w11.heap.size, 3, none⟩ = some (.int .i64 rn)) ∧ (w'.cell? ⟨w13.heap.size, 0, none⟩ = some (.slice ao9 nw.length do9) ∧ w'.cell? ⟨w13.heap.size, 1, none⟩ = some (.int .i64 0) ∧ w'.cell? ⟨w13.heap.size, 2, none⟩ = some (.int .i64 0) ∧ w'.cell? ⟨w13.heap.size, 3, none⟩ = some (.int .i64 0)))) (by kernel_rfl) (by first | (dsimp only; exact q0) | (exact q0)) (fun hHeld => ?_)
        refine' wpAnyH_take (i := 0) (oi := _) (v := _) ?hi0n482 (by kernel_rfl) (by kernel_rfl) (by kernel_rfl) ?hQ0n482 ?hy0n482 (by assumption) ?rest0n482
        case hi0n482 => (simp only [List.getElem?_toArray, List.getElem?_cons_zero]; rfl)
        case hQ0n482 => exact fun _ _ _ h => h
        case hy0n482 => exact Or.inl ⟨by rfl, by (intro w hSw; (try dsimp only at hSw); go_simp; (try with_reducible rfl))⟩
        try simp only [Act.put, List.setIfInBounds_toArray, List.set_cons_zero, List.set_cons_succ]
        refine' wpAnyH_take (i := 1) (oi := _) (v := _) ?hi1n482 (by kernel_rfl) (by kernel_rfl) (by kernel_rfl) ?hQ1n482 ?hy1n482 (by assumption) ?rest1n482
        case hi1n482 => (simp only [List.getElem?_toArray, List.getElem?_cons_succ, List.getElem?_cons_zero]; rfl)
        case hQ1n482 => exact fun _ _ _ h => h
        case hy1n482 => exact Or.inl ⟨by rfl, by (intro w hSw; (try dsimp only at hSw); go_simp; (try with_reducible rfl))⟩
        try simp only [Act.put, List.setIfInBounds_toArray, List.set_cons_zero, List.set_cons_succ]
        refine' wpAnyH_take (i := 2) (oi := _) (v := _) ?hi2n482 (by kernel_rfl) (by kernel_rfl) (by kernel_rfl) ?hQ2n482 ?hy2n482 (by assumption) ?rest2n482
        case hi2n482 => (simp only [List.getElem?_toArray, List.getElem?_cons_succ, List.getElem?_cons_zero]; rfl)
        case hQ2n482 => exact fun _ _ _ h => h
        case hy2n482 => exact Or.inl ⟨by rfl, by (intro w hSw; (try dsimp only at hSw); go_simp; (try with_reducible rfl))⟩
        try simp only [Act.put, List.setIfInBounds_toArray, List.set_cons_zero, List.set_cons_succ]
        refine' wpAnyH_take (i := 3) (oi := _) (v := _) ?hi3n482 (by kernel_rfl) (by kernel_rfl) (by kernel_rfl) ?hQ3n482 ?hy3n482 (by assumption) ?rest3n482
        case hi3n482 => (simp only [List.getElem?_toArray, List.getElem?_cons_succ, List.getElem?_cons_zero]; rfl)
        case hQ3n482 => exact fun _ _ _ h => h
        case hy3n482 => exact Or.inl ⟨by rfl, by (intro w hSw; (try dsimp only at hSw); go_simp; (try with_reducible rfl))⟩
        try simp only [Act.put, List.setIfInBounds_toArray, List.set_cons_zero, List.set_cons_succ]
        refine' wpAnyH_take (i := 4) (oi := _) (v := _) ?hi4n482 (by kernel_rfl) (by kernel_rfl) (by kernel_rfl) ?hQ4n482 ?hy4n482 (by assumption) ?rest4n482
        case hi4n482 => (simp only [List.getElem?_toArray, List.getElem?_cons_succ, List.getElem?_cons_zero]; rfl)
        case hQ4n482 => exact fun _ _ _ h => h
        case hy4n482 => exact Or.inl ⟨by rfl, by (intro w hSw; (try dsimp only at hSw); go_simp; (try with_reducible rfl))⟩
        try simp only [Act.put, List.setIfInBounds_toArray, List.set_cons_zero, List.set_cons_succ]
        refine' wpAnyH_take (i := 5) (oi := _) (v := _) ?hi5n482 (by kernel_rfl) (by kernel_rfl) (by kernel_rfl) ?hQ5n482 ?hy5n482 (by assumption) ?rest5n482
        case hi5n482 => (simp only [List.getElem?_toArray, List.getElem?_cons_succ, List.getElem?_cons_zero]; rfl)
        case hQ5n482 => exact fun _ _ _ h => h
        case hy5n482 => exact Or.inl ⟨by rfl, by (intro w hSw; (try dsimp only at hSw); go_simp; (try with_reducible rfl))⟩
        try simp only [Act.put, List.setIfInBounds_toArray, List.set_cons_zero, List.set_cons_succ]
        refine' wpAnyH_take (i := 6) (oi := _) (v := _) ?hi6n482 (by kernel_rfl) (by kernel_rfl) (by kernel_rfl) ?hQ6n482 ?hy6n482 (by assumption) ?rest6n482
        case hi6n482 => (simp only [List.getElem?_toArray, List.getElem?_cons_succ, List.getElem?_cons_zero]; rfl)
        case hQ6n482 => exact fun _ _ _ h => h
        case hy6n482 => exact Or.inl ⟨by rfl, by (intro w hSw; (try dsimp only at hSw); go_simp; (try with_reducible rfl))⟩
        try simp only [Act.put, List.setIfInBounds_toArray, List.set_cons_zero, List.set_cons_succ]
        refine' wpAnyH_take (i := 7) (oi := _) (v := _) ?hi7n482 (by kernel_rfl) (by kernel_rfl) (by kernel_rfl) ?hQ7n482 ?hy7n482 (by assumption) ?rest7n482
        case hi7n482 => (simp only [List.getElem?_toArray, List.getElem?_cons_succ, List.getElem?_cons_zero]; rfl)
        case hQ7n482 => exact fun _ _ _ h => h
        case hy7n482 => exact Or.inl ⟨by rfl, by (intro w hSw; (try dsimp only at hSw); go_simp; (try with_reducible rfl))⟩
        try simp only [Act.put, List.setIfInBounds_toArray, List.set_cons_zero, List.set_cons_succ]
        refine' wpAnyH_take (i := 8) (oi := _) (v := _) ?hi8n482 (by kernel_rfl) (by kernel_rfl) (by kernel_rfl) ?hQ8n482 ?hy8n482 (by assumption) ?rest8n482
        case hi8n482 => (simp only [List.getElem?_toArray, List.getElem?_cons_succ, List.getElem?_cons_zero]; rfl)
        case hQ8n482 => exact fun _ _ _ h => h
        case hy8n482 => exact Or.inl ⟨by rfl, by (intro w hSw; (try dsimp only at hSw); go_simp; (try with_reducible rfl))⟩
        try simp only [Act.put, List.setIfInBounds_toArray, List.set_cons_zero, List.set_cons_succ]
        refine' wpAnyH_take (i := 9) (oi := _) (v := _) ?hi9n482 (by kernel_rfl) (by kernel_rfl) (by kernel_rfl) ?hQ9n482 ?hy9n482 (by assumption) ?rest9n482
        case hi9n482 => (simp only [List.getElem?_toArray, List.getElem?_cons_succ, List.getElem?_cons_zero]; rfl)
        case hQ9n482 => exact fun _ _ _ h => h
        case hy9n482 => exact Or.inl ⟨by rfl, by (intro w hSw; (try dsimp only at hSw); go_simp; (try with_reducible rfl))⟩
        try simp only [Act.put, List.setIfInBounds_toArray, List.set_cons_zero, List.set_cons_succ]
        refine' wpAnyH_take (i := 10) (oi := _) (v := _) ?hi10n482 (by kernel_rfl) (by kernel_rfl) (by kernel_rfl) ?hQ10n482 ?hy10n482 (by assumption) ?rest10n482
        case hi10n482 => (simp only [List.getElem?_toArray, List.getElem?_cons_succ, List.getElem?_cons_zero]; rfl)
        case hQ10n482 => exact fun _ _ _ h => h
        case hy10n482 => exact Or.inl ⟨by rfl, by (intro w hSw; (try dsimp only at hSw); go_simp; (try with_reducible rfl))⟩
        try simp only [Act.put, List.setIfInBounds_toArray, List.set_cons_zero, List.set_cons_succ]
        refine' wpAnyH_take (i := 11) (oi := _) (v := _) ?hi11n482 (by kernel_rfl) (by kernel_rfl) (by kernel_rfl) ?hQ11n482 ?hy11n482 (by assumption) ?rest11n482
        case hi11n482 => (simp only [List.getElem?_toArray, List.getElem?_cons_succ, List.getElem?_cons_zero]; rfl)
        case hQ11n482 => exact fun _ _ _ h => h
        case hy11n482 => exact Or.inl ⟨by rfl, by (intro w hSw; (try dsimp only at hSw); go_simp; (try with_reducible rfl))⟩
        try simp only [Act.put, List.setIfInBounds_toArray, List.set_cons_zero, List.set_cons_succ]
        refine' wpAnyH_take (i := 12) (oi := _) (v := _) ?hi12n482 (by kernel_rfl) (by kernel_rfl) (by kernel_rfl) ?hQ12n482 ?hy12n482 (by assumption) ?rest12n482
        case hi12n482 => (simp only [List.getElem?_toArray, List.getElem?_cons_succ, List.getElem?_cons_zero]; rfl)
        case hQ12n482 => exact fun _ _ _ h => h
        case hy12n482 => exact Or.inl ⟨by rfl, by (intro w hSw; (try dsimp only at hSw); go_simp; (try with_reducible rfl))⟩
        try simp only [Act.put, List.setIfInBounds_toArray, List.set_cons_zero, List.set_cons_succ]
        refine' wpAnyH_take (i := 13) (oi := _) (v := _) ?hi13n482 (by kernel_rfl) (by kernel_rfl) (by kernel_rfl) ?hQ13n482 ?hy13n482 (by assumption) ?rest13n482
        case hi13n482 => (simp only [List.getElem?_toArray, List.getElem?_cons_succ, List.getElem?_cons_zero]; rfl)
        case hQ13n482 => exact fun _ _ _ h => h
        case hy13n482 => exact Or.inl ⟨by rfl, by (intro w hSw; (try dsimp only at hSw); go_simp; (try with_reducible rfl))⟩
        try simp only [Act.put, List.setIfInBounds_toArray, List.set_cons_zero, List.set_cons_succ]
        refine' wpAnyH_take (i := 14) (oi := _) (v := _) ?hi14n482 (by kernel_rfl) (by kernel_rfl) (by kernel_rfl) ?hQ14n482 ?hy14n482 (by assumption) ?rest14n482
        case hi14n482 => (simp only [List.getElem?_toArray, List.getElem?_cons_succ, List.getElem?_cons_zero]; rfl)
        case hQ14n482 => exact fun _ _ _ h => h
        case hy14n482 => exact Or.inl ⟨by rfl, by (intro w hSw; (try dsimp only at hSw); go_simp; (try with_reducible rfl))⟩
        try simp only [Act.put, List.setIfInBounds_toArray, List.set_cons_zero, List.set_cons_succ]
        refine' wpAnyH_take (i := 15) (oi := _) (v := _) ?hi15n482 (by kernel_rfl) (by kernel_rfl) (by kernel_rfl) ?hQ15n482 ?hy15n482 (by assumption) ?rest15n482
        case hi15n482 => (simp only [List.getElem?_toArray, List.getElem?_cons_succ, List.getElem?_cons_zero]; rfl)
        case hQ15n482 => exact fun _ _ _ h => h
        case hy15n482 => exact Or.inl ⟨by rfl, by (intro w hSw; (try dsimp only at hSw); go_simp; (try with_reducible rfl))⟩
        try simp only [Act.put, List.setIfInBounds_toArray, List.set_cons_zero, List.set_cons_succ]
        obtain ⟨xd15, hxw⟩ : ∃ xd, xk27.drew = xd := ⟨_, rfl⟩
        rw [hxw] at hHeld ⊢
        have bd : Below xk27.heap.size xk27 xd15 := by rw [← hxw]; exact (Below.refl _ _).drew
        clear hxw q0
        replace k3 := k3.below bd k3.1
        replace k7 := k7.below bd k7.1
        replace k23 := k23.below bd k23.1
        replace k25 := k25.below bd k25.1
        replace o1 := own_below o1 bd (own_lt o1)
        replace o2 := own_below o2 bd (own_lt o2)
        replace o3 := own_below o3 bd (own_lt o3)
        replace o6 := own_below o6 bd (own_lt o6)
        replace o7 := own_below o7 bd (own_lt o7)
        replace o8 := own_below o8 bd (own_lt o8)
        replace o9 := own_below o9 bd (own_lt o9)
        have zxd15 := bd.size
        replace bb := bb.trans (bd.mono bb.size)
        clear bd
        refine wpAnyH_ready (rs := [16]) (by kernel_rfl) (by simp) ?_
        refine AllReadyH.cons (by (simp only [List.getElem?_toArray, List.getElem?_cons_succ, List.getElem?_cons_zero]; rfl)) (fun K hK => ?_) AllReadyH.nil
        rw [if_pos (by rfl)]
        go_simp
        refine (sameInts_same _ _ _ _ (Rd.of_own o6) (Rd.of_own o7)).mono ?_
        rintro e w16 ⟨rfl, b16⟩
        replace k3 := k3.below b16 k3.1
        replace k7 := k7.below b16 k7.1
        replace k23 := k23.below b16 k23.1
        replace k25 := k25.below b16 k25.1
        replace o1 := own_below o1 b16 (own_lt o1)
        replace o2 := own_below o2 b16 (own_lt o2)
        replace o3 := own_below o3 b16 (own_lt o3)
        replace o6 := own_below o6 b16 (own_lt o6)
        replace o7 := own_below o7 b16 (own_lt o7)
        replace o8 := own_below o8 b16 (own_lt o8)
        replace o9 := own_below o9 b16 (own_lt o9)
        have zw16 := b16.size
        replace bb := bb.trans (b16.mono bb.size)
        clear b16
        have q0 := And.intro k23.four (k25.four)
        dsimp only
        refine hK.out _ _ (by first | (dsimp only; exact q0) | exact q0) (fun hHeld => ?_)
        clear q0 hK K
        try simp only [Act.put, List.setIfInBounds_toArray, List.set_cons_zero, List.set_cons_succ]
        refine' wpAnyH_take (i := 17) (oi := _) (v := _) ?hi17n526 (by kernel_rfl) (by kernel_rfl) (by kernel_rfl) ?hQ17n526 ?hy17n526 (by assumption) ?rest17n526
        case hi17n526 => (simp only [List.getElem?_toArray, List.getElem?_cons_succ, List.getElem?_cons_zero]; rfl)
        case hQ17n526 => exact fun _ _ _ h => h
        case hy17n526 => exact Or.inl ⟨by rfl, by (intro w hSw; (try dsimp only at hSw); go_simp; (try with_reducible rfl))⟩
        try simp only [Act.put, List.setIfInBounds_toArray, List.set_cons_zero, List.set_cons_succ]
        refine' wpAnyH_take (i := 18) (oi := _) (v := _) ?hi18n526 (by kernel_rfl) (by kernel_rfl) (by kernel_rfl) ?hQ18n526 ?hy18n526 (by assumption) ?rest18n526
        case hi18n526 => (simp only [List.getElem?_toArray, List.getElem?_cons_succ, List.getElem?_cons_zero]; rfl)
        case hQ18n526 => exact fun _ _ _ h => h
        case hy18n526 => exact Or.inl ⟨by rfl, by (intro w hSw; (try dsimp only at hSw); go_simp; (try with_reducible rfl))⟩
        try simp only [Act.put, List.setIfInBounds_toArray, List.set_cons_zero, List.set_cons_succ]
        refine' wpAnyH_take (i := 19) (oi := _) (v := _) ?hi19n526 (by kernel_rfl) (by kernel_rfl) (by kernel_rfl) ?hQ19n526 ?hy19n526 (by assumption) ?rest19n526
        case hi19n526 => (simp only [List.getElem?_toArray, List.getElem?_cons_succ, List.getElem?_cons_zero]; rfl)
        case hQ19n526 => exact fun _ _ _ h => h
        case hy19n526 => exact Or.inl ⟨by rfl, by (intro w hSw; (try dsimp only at hSw); go_simp; (try with_reducible rfl))⟩
        try simp only [Act.put, List.setIfInBounds_toArray, List.set_cons_zero, List.set_cons_succ]
        refine' wpAnyH_take (i := 20) (oi := _) (v := _) ?hi20n526 (by kernel_rfl) (by kernel_rfl) (by kernel_rfl) ?hQ20n526 ?hy20n526 (by assumption) ?rest20n526
        case hi20n526 => (simp only [List.getElem?_toArray, List.getElem?_cons_succ, List.getElem?_cons_zero]; rfl)
        case hQ20n526 => exact fun _ _ _ h => h
        case hy20n526 => exact Or.inl ⟨by rfl, by (intro w hSw; (try dsimp only at hSw); go_simp; (try with_reducible rfl))⟩
        try simp only [Act.put, List.setIfInBounds_toArray, List.set_cons_zero, List.set_cons_succ]
        refine' wpAnyH_take (i := 22) (oi := _) (v := _) ?hi22n526 (by kernel_rfl) (by kernel_rfl) (by kernel_rfl) ?hQ22n526 ?hy22n526 (by assumption) ?rest22n526
        case hi22n526 => (simp only [List.getElem?_toArray, List.getElem?_cons_succ, List.getElem?_cons_zero]; rfl)
        case hQ22n526 => exact fun _ _ _ h => h
        case hy22n526 => exact Or.inl ⟨by rfl, by (intro w hSw; (try dsimp only at hSw); go_simp; (try with_reducible rfl))⟩
        try simp only [Act.put, List.setIfInBounds_toArray, List.set_cons_zero, List.set_cons_succ]
        refine wpAnyH_ready (rs := [21]) (by kernel_rfl) (by simp) ?_
        refine AllReadyH.cons (by (simp only [List.getElem?_toArray, List.getElem?_cons_succ, List.getElem?_cons_zero]; rfl)) (fun K hK => ?_) AllReadyH.nil
        rw [if_pos (by rfl)]
        go_simp
        refine (M4.out _ _ _ (Rd.of_own o8)).mono ?_
        rintro e w17 ⟨rfl, b17⟩
        replace k3 := k3.below b17 k3.1
        replace k7 := k7.below b17 k7.1
        replace k23 := k23.below b17 k23.1
        replace k25 := k25.below b17 k25.1
        replace o1 := own_below o1 b17 (own_lt o1)
        replace o2 := own_below o2 b17 (own_lt o2)
        replace o3 := own_below o3 b17 (own_lt o3)
        replace o6 := own_below o6 b17 (own_lt o6)
        replace o7 := own_below o7 b17 (own_lt o7)
        replace o8 := own_below o8 b17 (own_lt o8)
        replace o9 := own_below o9 b17 (own_lt o9)
        have zw17 := b17.size
        replace bb := bb.trans (b17.mono bb.size)
        clear b17
        have q0 := And.intro k23.four (k25.four)
        dsimp only
        refine hK.out _ _ (by first | (dsimp only; exact q0) | exact q0) (fun hHeld => ?_)
        clear q0 hK K
        try simp only [Act.put, List.setIfInBounds_toArray, List.set_cons_zero, List.set_cons_succ]
        refine wpAnyH_ready (rs := [23]) (by kernel_rfl) (by simp) ?_
        refine AllReadyH.cons (by (simp only [List.getElem?_toArray, List.getElem?_cons_succ, List.getElem?_cons_zero]; rfl)) (fun K hK => ?_) AllReadyH.nil
        rw [if_pos (by rfl)]
        go_simp
        refine (M5.out _ _ _ (Rd.of_own o8)).mono ?_
        rintro e w18 ⟨rfl, b18⟩
        replace k3 := k3.below b18 k3.1
        replace k7 := k7.below b18 k7.1
        replace k23 := k23.below b18 k23.1
        replace k25 := k25.below b18 k25.1
        replace o1 := own_below o1 b18 (own_lt o1)
        replace o2 := own_below o2 b18 (own_lt o2)
        replace o3 := own_below o3 b18 (own_lt o3)
        replace o6 := own_below o6 b18 (own_lt o6)
        replace o7 := own_below o7 b18 (own_lt o7)
        replace o8 := own_below o8 b18 (own_lt o8)
        replace o9 := own_below o9 b18 (own_lt o9)
        have zw18 := b18.size
        replace bb := bb.trans (b18.mono bb.size)
        clear b18
        have q0 := And.intro k23.four (k25.four)
        dsimp only
        refine hK.out _ _ (by first | (dsimp only; exact q0) | exact q0) (fun hHeld => ?_)
        clear q0 hK K
        try simp only [Act.put, List.setIfInBounds_toArray, List.set_cons_zero, List.set_cons_succ]
        refine' wpAnyH_take (i := 24) (oi := _) (v := _) ?hi24n577 (by kernel_rfl) (by kernel_rfl) (by kernel_rfl) ?hQ24n577 ?hy24n577 (by assumption) ?rest24n577
        case hi24n577 => (simp only [List.getElem?_toArray, List.getElem?_cons_succ, List.getElem?_cons_zero]; rfl)
        case hQ24n577 => exact fun _ _ _ h => h
        case hy24n577 => exact Or.inl ⟨by rfl, by (intro w hSw; (try dsimp only at hSw); go_simp; (try with_reducible rfl))⟩
        try simp only [Act.put, List.setIfInBounds_toArray, List.set_cons_zero, List.set_cons_succ]
        refine' wpAnyH_take (i := 25) (oi := _) (v := _) ?hi25n577 (by kernel_rfl) (by kernel_rfl) (by kernel_rfl) ?hQ25n577 ?hy25n577 (by assumption) ?rest25n577
        case hi25n577 => (simp only [List.getElem?_toArray, List.getElem?_cons_succ, List.getElem?_cons_zero]; rfl)
        case hQ25n577 => exact fun _ _ _ h => h
        case hy25n577 => exact Or.inl ⟨by rfl, by (intro w hSw; (try dsimp only at hSw); go_simp; (try with_reducible rfl))⟩
        try simp only [Act.put, List.setIfInBounds_toArray, List.set_cons_zero, List.set_cons_succ]
        refine' wpAnyH_take (i := 26) (oi := _) (v := _) ?hi26n577 (by kernel_rfl) (by kernel_rfl) (by kernel_rfl) ?hQ26n577 ?hy26n577 (by assumption) ?rest26n577
        case hi26n577 => (simp only [List.getElem?_toArray, List.getElem?_cons_succ, List.getElem?_cons_zero]; rfl)
        case hQ26n577 => exact fun _ _ _ h => h
        case hy26n577 => exact Or.inl ⟨by rfl, by (intro w hSw; (try dsimp only at hSw); go_simp; (try with_reducible rfl))⟩
        try simp only [Act.put, List.setIfInBounds_toArray, List.set_cons_zero, List.set_cons_succ]
        refine' wpAnyH_take (i := 27) (oi := _) (v := _) ?hi27n577 (by kernel_rfl) (by kernel_rfl) (by kernel_rfl) ?hQ27n577 ?hy27n577 (by assumption) ?rest27n577
        case hi27n577 => (simp only [List.getElem?_toArray, List.getElem?_cons_succ, List.getElem?_cons_zero]; rfl)
        case hQ27n577 => exact fun _ _ _ h => h
        case hy27n577 => exact Or.inl ⟨by rfl, by (intro w hSw; (try dsimp only at hSw); go_simp; (try with_reducible rfl))⟩
        try simp only [Act.put, List.setIfInBounds_toArray, List.set_cons_zero, List.set_cons_succ]
        refine' wpAnyH_take (i := 28) (oi := _) (v := _) ?hi28n577 (by kernel_rfl) (by kernel_rfl) (by kernel_rfl) ?hQ28n577 ?hy28n577 (by assumption) ?rest28n577
        case hi28n577 => (simp only [List.getElem?_toArray, List.getElem?_cons_succ, List.getElem?_cons_zero]; rfl)
        case hQ28n577 => exact fun _ _ _ h => h
        case hy28n577 => exact Or.inl ⟨by rfl, by (intro w hSw; (try dsimp only at hSw); go_simp; (try with_reducible rfl))⟩
        try simp only [Act.put, List.setIfInBounds_toArray, List.set_cons_zero, List.set_cons_succ]
        refine' wpAnyH_take (i := 29) (oi := _) (v := _) ?hi29n577 (by kernel_rfl) (by kernel_rfl) (by kernel_rfl) ?hQ29n577 ?hy29n577 (by assumption) ?rest29n577
        case hi29n577 => (simp only [List.getElem?_toArray, List.getElem?_cons_succ, List.getElem?_cons_zero]; rfl)
        case hQ29n577 => exact fun _ _ _ h => h
        case hy29n577 => exact Or.inl ⟨by rfl, by (intro w hSw; (try dsimp only at hSw); go_simp; (try with_reducible rfl))⟩
        try simp only [Act.put, List.setIfInBounds_toArray, List.set_cons_zero, List.set_cons_succ]
        refine' wpAnyH_take (i := 30) (oi := _) (v := _) ?hi30n577 (by kernel_rfl) (by kernel_rfl) (by kernel_rfl) ?hQ30n577 ?hy30n577 (by assumption) ?rest30n577
        case hi30n577 => (simp only [List.getElem?_toArray, List.getElem?_cons_succ, List.getElem?_cons_zero]; rfl)
        case hQ30n577 => exact fun _ _ _ h => h
        case hy30n577 => exact Or.inl ⟨by rfl, by (intro w hSw; (try dsimp only at hSw); go_simp; (try with_reducible rfl))⟩
        try simp only [Act.put, List.setIfInBounds_toArray, List.set_cons_zero, List.set_cons_succ]
        refine' wpAnyH_take (i := 31) (oi := _) (v := _) ?hi31n577 (by kernel_rfl) (by kernel_rfl) (by kernel_rfl) ?hQ31n577 ?hy31n577 (by assumption) ?rest31n577
        case hi31n577 => (simp only [List.getElem?_toArray, List.getElem?_cons_succ, List.getElem?_cons_zero]; rfl)
        case hQ31n577 => exact fun _ _ _ h => h
        case hy31n577 => exact Or.inl ⟨by rfl, by (intro w hSw; (try dsimp only at hSw); go_simp; (try with_reducible rfl))⟩
        try simp only [Act.put, List.setIfInBounds_toArray, List.set_cons_zero, List.set_cons_succ]
        refine' wpAnyH_take (i := 32) (oi := _) (v := _) ?hi32n577 (by kernel_rfl) (by kernel_rfl) (by kernel_rfl) ?hQ32n577 ?hy32n577 (by assumption) ?rest32n577
        case hi32n577 => (simp only [List.getElem?_toArray, List.getElem?_cons_succ, List.getElem?_cons_zero]; rfl)
        case hQ32n577 => exact fun _ _ _ h => h
        case hy32n577 => exact Or.inl ⟨by rfl, by (intro w hSw; (try dsimp only at hSw); go_simp; (try with_reducible rfl))⟩
        try simp only [Act.put, List.setIfInBounds_toArray, List.set_cons_zero, List.set_cons_succ]
        refine' wpAnyH_take (i := 33) (oi := _) (v := _) ?hi33n577 (by kernel_rfl) (by kernel_rfl) (by kernel_rfl) ?hQ33n577 ?hy33n577 (by assumption) ?rest33n577
        case hi33n577 => (simp only [List.getElem?_toArray, List.getElem?_cons_succ, List.getElem?_cons_zero]; rfl)
        case hQ33n577 => exact fun _ _ _ h => h
        case hy33n577 => exact Or.inl ⟨by rfl, by (intro w hSw; (try dsimp only at hSw); go_simp; (try with_reducible rfl))⟩
        try simp only [Act.put, List.setIfInBounds_toArray, List.set_cons_zero, List.set_cons_succ]
        refine' wpAnyH_take (i := 34) (oi := _) (v := undef) ?hi34n578 (by kernel_rfl) (by kernel_rfl) (by kernel_rfl) ?hQ34n578 ?hy34n578 (by assumption) ?rest34n578
        case hi34n578 => (simp only [List.getElem?_toArray, List.getElem?_cons_succ, List.getElem?_cons_zero]; rfl)
        case hQ34n578 => exact fun _ _ _ h => h
        case hy34n578 => exact Or.inr ⟨by rfl, rfl⟩
        try simp only [Act.put, List.setIfInBounds_toArray, List.set_cons_zero, List.set_cons_succ]
        refine' wpAnyH_take (i := 35) (oi := _) (v := undef) ?hi35n578 (by kernel_rfl) (by kernel_rfl) (by kernel_rfl) ?hQ35n578 ?hy35n578 (by assumption) ?rest35n578
        case hi35n578 => (simp only [List.getElem?_toArray, List.getElem?_cons_succ, List.getElem?_cons_zero]; rfl)
        case hQ35n578 => exact fun _ _ _ h => h
        case hy35n578 => exact Or.inr ⟨by rfl, rfl⟩
        try simp only [Act.put, List.setIfInBounds_toArray, List.set_cons_zero, List.set_cons_succ]
        refine' wpAnyH_take (i := 36) (oi := _) (v := undef) ?hi36n578 (by kernel_rfl) (by kernel_rfl) (by kernel_rfl) ?hQ36n578 ?hy36n578 (by assumption) ?rest36n578
        case hi36n578 => (simp only [List.getElem?_toArray, List.getElem?_cons_succ, List.getElem?_cons_zero]; rfl)
        case hQ36n578 => exact fun _ _ _ h => h
        case hy36n578 => exact Or.inr ⟨by rfl, rfl⟩
        try simp only [Act.put, List.setIfInBounds_toArray, List.set_cons_zero, List.set_cons_succ]
        refine' wpAnyH_take (i := 37) (oi := _) (v := _) ?hi37n579 (by kernel_rfl) (by kernel_rfl) (by kernel_rfl) ?hQ37n579 ?hy37n579 (by assumption) ?rest37n579
        case hi37n579 => (simp only [List.getElem?_toArray, List.getElem?_cons_succ, List.getElem?_cons_zero]; rfl)
        case hQ37n579 => exact fun _ _ _ h => h
        case hy37n579 => exact Or.inl ⟨by rfl, by (intro w hSw; (try dsimp only at hSw); go_simp; (try with_reducible rfl))⟩
        try simp only [Act.put, List.setIfInBounds_toArray, List.set_cons_zero, List.set_cons_succ]
        refine' wpAnyH_take (i := 38) (oi := _) (v := _) ?hi38n579 (by kernel_rfl) (by kernel_rfl) (by kernel_rfl) ?hQ38n579 ?hy38n579 (by assumption) ?rest38n579
        case hi38n579 => (simp only [List.getElem?_toArray, List.getElem?_cons_succ, List.getElem?_cons_zero]; rfl)
        case hQ38n579 => exact fun _ _ _ h => h
        case hy38n579 => exact Or.inl ⟨by rfl, by (intro w hSw; (try dsimp only at hSw); go_simp; (try with_reducible rfl))⟩
        try simp only [Act.put, List.setIfInBounds_toArray, List.set_cons_zero, List.set_cons_succ]
        refine wpAnyH_done (by kernel_rfl) ?_ _
        clear hHeld
        clear lo6 mo6
        clear lo7 mo7
        clear lo8 mo8
        clear lo9 mo9
        clear o6 o7 o8 o9 k23 k25
        clear hbo hbf hbt hrr
        have hP := HNO.out (by first | rfl | exact trivial)
        injection hP with hP1 hP2 hP3
        subst hP1
        subst hP2
        have ck3 := k3.2.1
        have yk3 := k3.1
        have ck7 := k7.2.1
        have yk7 := k7.1
        go_wp2_with fail
        clear ck3 yk3 ck7 yk7
        refine (sameHeap_same _ _ _ _ _ _ _ (Rd.of_own o3) (Rd.of_own o1)).mono ?_
        rintro e w19 ⟨rfl, b19⟩
        replace k3 := k3.below b19 k3.1
        replace k7 := k7.below b19 k7.1
        replace o1 := own_below o1 b19 (own_lt o1)
        replace o2 := own_below o2 b19 (own_lt o2)
        replace o3 := own_below o3 b19 (own_lt o3)
        have zw19 := b19.size
        replace bb := bb.trans (b19.mono bb.size)
        clear b19
        go_wp2
        go_ret
        exact ⟨rfl, bb⟩
      · have q1 := N1.out
        have q2 := N2.out
        rw [if_pos rfl] at q1 q2
        have N1' := Lib.hid q1
        have N2' := Lib.hid q2
        have q3 := NO.out rfl
        have NO' := Lib.hid q3
        clear N1 N2 NO q1 q2 q3
        go_wp2_with fail
        refine (N1'.out _).mono ?_
        rintro e w13 ⟨v9, rfl, o9, b13⟩
        have lo9 : ∀ k, v9.ownBlock = some k → w12.heap.size ≤ k := fun k hk => (o9.lt k hk).1
        have mo9 := own_lt o9
        replace k3 := k3.below b13 k3.1
        replace k7 := k7.below b13 k7.1
        replace k23 := k23.below b13 k23.1
        replace o1 := own_below o1 b13 (own_lt o1)
        replace o2 := own_below o2 b13 (own_lt o2)
        replace o3 := own_below o3 b13 (own_lt o3)
        replace o6 := own_below o6 b13 (own_lt o6)
        replace o7 := own_below o7 b13 (own_lt o7)
        replace o8 := own_below o8 b13 (own_lt o8)
        have zw13 := b13.size
        replace bb := bb.trans (b13.mono bb.size)
        clear b13
        obtain ⟨ao9, do9, rfl⟩ := own_form o9
        go_wp2_with fail
        generalize hx : w13.alloc _ = xk25
        obtain ⟨bx, k25⟩ := Bx.alloc hx
        clear hx
        replace k3 := k3.below bx k3.1
        replace k7 := k7.below bx k7.1
        replace k23 := k23.below bx k23.1
        replace o1 := own_below o1 bx (own_lt o1)
        replace o2 := own_below o2 bx (own_lt o2)
        replace o3 := own_below o3 bx (own_lt o3)
        replace o6 := own_below o6 bx (own_lt o6)
        replace o7 := own_below o7 bx (own_lt o7)
        replace o8 := own_below o8 bx (own_lt o8)
        replace o9 := own_below o9 bx (own_lt o9)
        have zxk25 := bx.size
        replace bb := bb.trans (bx.mono bb.size)
        clear bx
        have uk25 := k25.1
        refine (N2'.out _).mono ?_
        rintro e w14 ⟨v10, rfl, o10, b14⟩
        have lo10 : ∀ k, v10.ownBlock = some k → xk25.heap.size ≤ k := fun k hk => (o10.lt k hk).1
        have mo10 := own_lt o10
        replace k3 := k3.below b14 k3.1
        replace k7 := k7.below b14 k7.1
        replace k23 := k23.below b14 k23.1
        replace k25 := k25.below b14 k25.1
        replace o1 := own_below o1 b14 (own_lt o1)
        replace o2 := own_below o2 b14 (own_lt o2)
        replace o3 := own_below o3 b14 (own_lt o3)
        replace o6 := own_below o6 b14 (own_lt o6)
        replace o7 := own_below o7 b14 (own_lt o7)
        replace o8 := own_below o8 b14 (own_lt o8)
        replace o9 := own_below o9 b14 (own_lt o9)
        have zw14 := b14.size
        replace bb := bb.trans (b14.mono bb.size)
        clear b14
        obtain ⟨ao10, do10, rfl⟩ := own_form o10
        go_upto_region 15 with fail
        generalize hx : w14.alloc _ = xk27
        obtain ⟨bx, k27⟩ := Bx.alloc hx
        clear hx
        replace k3 := k3.below bx k3.1
        replace k7 := k7.below bx k7.1
        replace k23 := k23.below bx k23.1
        replace k25 := k25.below bx k25.1
        replace o1 := own_below o1 bx (own_lt o1)
        replace o2 := own_below o2 bx (own_lt o2)
        replace o3 := own_below o3 bx (own_lt o3)
        replace o6 := own_below o6 bx (own_lt o6)
        replace o7 := own_below o7 bx (own_lt o7)
        replace o8 := own_below o8 bx (own_lt o8)
        replace o9 := own_below o9 bx (own_lt o9)
        replace o10 := own_below o10 bx (own_lt o10)
        have zxk27 := bx.size
        replace bb := bb.trans (bx.mono bb.size)
        clear bx
        have uk27 := k27.1
        clear lo10 mo10
        clear k27 o10
        have q0 := And.intro k23.four (k25.four)
        refine wp_region_held_drew (S := (fun w' => (w'.cell? ⟨w11.heap.size, 0, none⟩ = some (.slice ao8 rs.length do8) ∧ w'.cell? ⟨w11.heap.size, 1, none⟩ = some (.int .i64 rh) ∧ w'.cell? ⟨w11.heap.size, 2, none⟩ = some (.int .i64 rb) ∧ w'.cell? ⟨w11.heap.size, 3, none⟩ = some (.int .i64 rn)) ∧ (w'.cell? ⟨w13.heap.size, 0, none⟩ = some (.slice ao9 nw.length do9) ∧ w'.cell? ⟨w13.heap.size, 1, none⟩ = some (.int .i64 nn) ∧ w'.cell? ⟨w13.heap.size, 2, none⟩ = some (.int .i64 0) ∧ w'.cell? ⟨w13.heap.size, 3, none⟩ = some (.int .i64 0)))) (by kernel_rfl) (by first | (dsimp only; exact q0) | (exact q0)) (fun hHeld => ?_)
        refine' wpAnyH_take (i := 0) (oi := _) (v := _) ?hi0n698 (by kernel_rfl) (by kernel_rfl) (by kernel_rfl) ?hQ0n698 ?hy0n698 (by assumption) ?rest0n698
        case hi0n698 => (simp only [List.getElem?_toArray, List.getElem?_cons_zero]; rfl)
        case hQ0n698 => exact fun _ _ _ h => h
        case hy0n698 => exact Or.inl ⟨by rfl, by (intro w hSw; (try dsimp only at hSw); go_simp; (try with_reducible rfl))⟩
        try simp only [Act.put, List.setIfInBounds_toArray, List.set_cons_zero, List.set_cons_succ]
        refine' wpAnyH_take (i := 1) (oi := _) (v := _) ?hi1n698 (by kernel_rfl) (by kernel_rfl) (by kernel_rfl) ?hQ1n698 ?hy1n698 (by assumption) ?rest1n698
        case hi1n698 => (simp only [List.getElem?_toArray, List.getElem?_cons_succ, List.getElem?_cons_zero]; rfl)
        case hQ1n698 => exact fun _ _ _ h => h
        case hy1n698 => exact Or.inl ⟨by rfl, by (intro w hSw; (try dsimp only at hSw); go_simp; (try with_reducible rfl))⟩
        try simp only [Act.put, List.setIfInBounds_toArray, List.set_cons_zero, List.set_cons_succ]
        refine' wpAnyH_take (i := 2) (oi := _) (v := _) ?hi2n698 (by kernel_rfl) (by kernel_rfl) (by kernel_rfl) ?hQ2n698 ?hy2n698 (by assumption) ?rest2n698
        case hi2n698 => (simp only [List.getElem?_toArray, List.getElem?_cons_succ, List.getElem?_cons_zero]; rfl)
        case hQ2n698 => exact fun _ _ _ h => h
        case hy2n698 => exact Or.inl ⟨by rfl, by (intro w hSw; (try dsimp only at hSw); go_simp; (try with_reducible rfl))⟩
        try simp only [Act.put, List.setIfInBounds_toArray, List.set_cons_zero, List.set_cons_succ]
        refine' wpAnyH_take (i := 3) (oi := _) (v := _) ?hi3n698 (by kernel_rfl) (by kernel_rfl) (by kernel_rfl) ?hQ3n698 ?hy3n698 (by assumption) ?rest3n698
        case hi3n698 => (simp only [List.getElem?_toArray, List.getElem?_cons_succ, List.getElem?_cons_zero]; rfl)
        case hQ3n698 => exact fun _ _ _ h => h
        case hy3n698 => exact Or.inl ⟨by rfl, by (intro w hSw; (try dsimp only at hSw); go_simp; (try with_reducible rfl))⟩
        try simp only [Act.put, List.setIfInBounds_toArray, List.set_cons_zero, List.set_cons_succ]
        refine' wpAnyH_take (i := 4) (oi := _) (v := _) ?hi4n698 (by kernel_rfl) (by kernel_rfl) (by kernel_rfl) ?hQ4n698 ?hy4n698 (by assumption) ?rest4n698
        case hi4n698 => (simp only [List.getElem?_toArray, List.getElem?_cons_succ, List.getElem?_cons_zero]; rfl)
        case hQ4n698 => exact fun _ _ _ h => h
        case hy4n698 => exact Or.inl ⟨by rfl, by (intro w hSw; (try dsimp only at hSw); go_simp; (try with_reducible rfl))⟩
        try simp only [Act.put, List.setIfInBounds_toArray, List.set_cons_zero, List.set_cons_succ]
        refine' wpAnyH_take (i := 5) (oi := _) (v := _) ?hi5n698 (by kernel_rfl) (by kernel_rfl) (by kernel_rfl) ?hQ5n698 ?hy5n698 (by assumption) ?rest5n698
        case hi5n698 => (simp only [List.getElem?_toArray, List.getElem?_cons_succ, List.getElem?_cons_zero]; rfl)
        case hQ5n698 => exact fun _ _ _ h => h
        case hy5n698 => exact Or.inl ⟨by rfl, by (intro w hSw; (try dsimp only at hSw); go_simp; (try with_reducible rfl))⟩
        try simp only [Act.put, List.setIfInBounds_toArray, List.set_cons_zero, List.set_cons_succ]
        refine' wpAnyH_take (i := 6) (oi := _) (v := _) ?hi6n698 (by kernel_rfl) (by kernel_rfl) (by kernel_rfl) ?hQ6n698 ?hy6n698 (by assumption) ?rest6n698
        case hi6n698 => (simp only [List.getElem?_toArray, List.getElem?_cons_succ, List.getElem?_cons_zero]; rfl)
        case hQ6n698 => exact fun _ _ _ h => h
        case hy6n698 => exact Or.inl ⟨by rfl, by (intro w hSw; (try dsimp only at hSw); go_simp; (try with_reducible rfl))⟩
        try simp only [Act.put, List.setIfInBounds_toArray, List.set_cons_zero, List.set_cons_succ]
        refine' wpAnyH_take (i := 7) (oi := _) (v := _) ?hi7n698 (by kernel_rfl) (by kernel_rfl) (by kernel_rfl) ?hQ7n698 ?hy7n698 (by assumption) ?rest7n698
        case hi7n698 => (simp only [List.getElem?_toArray, List.getElem?_cons_succ, List.getElem?_cons_zero]; rfl)
        case hQ7n698 => exact fun _ _ _ h => h
        case hy7n698 => exact Or.inl ⟨by rfl, by (intro w hSw; (try dsimp only at hSw); go_simp; (try with_reducible rfl))⟩
        try simp only [Act.put, List.setIfInBounds_toArray, List.set_cons_zero, List.set_cons_succ]
        refine' wpAnyH_take (i := 8) (oi := _) (v := _) ?hi8n698 (by kernel_rfl) (by kernel_rfl) (by kernel_rfl) ?hQ8n698 ?hy8n698 (by assumption) ?rest8n698
        case hi8n698 => (simp only [List.getElem?_toArray, List.getElem?_cons_succ, List.getElem?_cons_zero]; rfl)
        case hQ8n698 => exact fun _ _ _ h => h
        case hy8n698 => exact Or.inl ⟨by rfl, by (intro w hSw; (try dsimp only at hSw); go_simp; (try with_reducible rfl))⟩
        try simp only [Act.put, List.setIfInBounds_toArray, List.set_cons_zero, List.set_cons_succ]
        refine' wpAnyH_take (i := 9) (oi := _) (v := _) ?hi9n698 (by kernel_rfl) (by kernel_rfl) (by kernel_rfl) ?hQ9n698 ?hy9n698 (by assumption) ?rest9n698
        case hi9n698 => (simp only [List.getElem?_toArray, List.getElem?_cons_succ, List.getElem?_cons_zero]; rfl)
        case hQ9n698 => exact fun _ _ _ h => h
        case hy9n698 => exact Or.inl ⟨by rfl, by (intro w hSw; (try dsimp only at hSw); go_simp; (try with_reducible rfl))⟩
        try simp only [Act.put, List.setIfInBounds_toArray, List.set_cons_zero, List.set_cons_succ]
        refine' wpAnyH_take (i := 10) (oi := _) (v := _) ?hi10n698 (by kernel_rfl) (by kernel_rfl) (by kernel_rfl) ?hQ10n698 ?hy10n698 (by assumption) ?rest10n698
        case hi10n698 => (simp only [List.getElem?_toArray, List.getElem?_cons_succ, List.getElem?_cons_zero]; rfl)
        case hQ10n698 => exact fun _ _ _ h => h
        case hy10n698 => exact Or.inl ⟨by rfl, by (intro w hSw; (try dsimp only at hSw); go_simp; (try with_reducible rfl))⟩
        try simp only [Act.put, List.setIfInBounds_toArray, List.set_cons_zero, List.set_cons_succ]
        refine' wpAnyH_take (i := 11) (oi := _) (v := _) ?hi11n698 (by kernel_rfl) (by kernel_rfl) (by kernel_rfl) ?hQ11n698 ?hy11n698 (by assumption) ?rest11n698
        case hi11n698 => (simp only [List.getElem?_toArray, List.getElem?_cons_succ, List.getElem?_cons_zero]; rfl)
        case hQ11n698 => exact fun _ _ _ h => h
        case hy11n698 => exact Or.inl ⟨by rfl, by (intro w hSw; (try dsimp only at hSw); go_simp; (try with_reducible rfl))⟩
        try simp only [Act.put, List.setIfInBounds_toArray, List.set_cons_zero, List.set_cons_succ]
        refine' wpAnyH_take (i := 12) (oi := _) (v := _) ?hi12n698 (by kernel_rfl) (by kernel_rfl) (by kernel_rfl) ?hQ12n698 ?hy12n698 (by assumption) ?rest12n698
        case hi12n698 => (simp only [List.getElem?_toArray, List.getElem?_cons_succ, List.getElem?_cons_zero]; rfl)
        case hQ12n698 => exact fun _ _ _ h => h
        case hy12n698 => exact Or.inl ⟨by rfl, by (intro w hSw; (try dsimp only at hSw); go_simp; (try with_reducible rfl))⟩
        try simp only [Act.put, List.setIfInBounds_toArray, List.set_cons_zero, List.set_cons_succ]
        refine' wpAnyH_take (i := 13) (oi := _) (v := _) ?hi13n698 (by kernel_rfl) (by kernel_rfl) (by kernel_rfl) ?hQ13n698 ?hy13n698 (by assumption) ?rest13n698
        case hi13n698 => (simp only [List.getElem?_toArray, List.getElem?_cons_succ, List.getElem?_cons_zero]; rfl)
        case hQ13n698 => exact fun _ _ _ h => h
        case hy13n698 => exact Or.inl ⟨by rfl, by (intro w hSw; (try dsimp only at hSw); go_simp; (try with_reducible rfl))⟩
        try simp only [Act.put, List.setIfInBounds_toArray, List.set_cons_zero, List.set_cons_succ]
        refine' wpAnyH_take (i := 14) (oi := _) (v := _) ?hi14n698 (by kernel_rfl) (by kernel_rfl) (by kernel_rfl) ?hQ14n698 ?hy14n698 (by assumption) ?rest14n698
        case hi14n698 => (simp only [List.getElem?_toArray, List.getElem?_cons_succ, List.getElem?_cons_zero]; rfl)
        case hQ14n698 => exact fun _ _ _ h => h
        case hy14n698 => exact Or.inl ⟨by rfl, by (intro w hSw; (try dsimp only at hSw); go_simp; (try with_reducible rfl))⟩
        try simp only [Act.put, List.setIfInBounds_toArray, List.set_cons_zero, List.set_cons_succ]
        refine' wpAnyH_take (i := 15) (oi := _) (v := _) ?hi15n698 (by kernel_rfl) (by kernel_rfl) (by kernel_rfl) ?hQ15n698 ?hy15n698 (by assumption) ?rest15n698
        case hi15n698 => (simp only [List.getElem?_toArray, List.getElem?_cons_succ, List.getElem?_cons_zero]; rfl)
        case hQ15n698 => exact fun _ _ _ h => h
        case hy15n698 => exact Or.inl ⟨by rfl, by (intro w hSw; (try dsimp only at hSw); go_simp; (try with_reducible rfl))⟩
        try simp only [Act.put, List.setIfInBounds_toArray, List.set_cons_zero, List.set_cons_succ]
        obtain ⟨xd15, hxw⟩ : ∃ xd, xk27.drew = xd := ⟨_, rfl⟩
        rw [hxw] at hHeld ⊢
        have bd : Below xk27.heap.size xk27 xd15 := by rw [← hxw]; exact (Below.refl _ _).drew
        clear hxw q0
        replace k3 := k3.below bd k3.1
        replace k7 := k7.below bd k7.1
        replace k23 := k23.below bd k23.1
        replace k25 := k25.below bd k25.1
        replace o1 := own_below o1 bd (own_lt o1)
        replace o2 := own_below o2 bd (own_lt o2)
        replace o3 := own_below o3 bd (own_lt o3)
        replace o6 := own_below o6 bd (own_lt o6)
        replace o7 := own_below o7 bd (own_lt o7)
        replace o8 := own_below o8 bd (own_lt o8)
        replace o9 := own_below o9 bd (own_lt o9)
        have zxd15 := bd.size
        replace bb := bb.trans (bd.mono bb.size)
        clear bd
        refine wpAnyH_ready (rs := [16]) (by kernel_rfl) (by simp) ?_
        refine AllReadyH.cons (by (simp only [List.getElem?_toArray, List.getElem?_cons_succ, List.getElem?_cons_zero]; rfl)) (fun K hK => ?_) AllReadyH.nil
        rw [if_pos (by rfl)]
        go_simp
        refine (sameInts_same _ _ _ _ (Rd.of_own o6) (Rd.of_own o7)).mono ?_
        rintro e w16 ⟨rfl, b16⟩
        replace k3 := k3.below b16 k3.1
        replace k7 := k7.below b16 k7.1
        replace k23 := k23.below b16 k23.1
        replace k25 := k25.below b16 k25.1
        replace o1 := own_below o1 b16 (own_lt o1)
        replace o2 := own_below o2 b16 (own_lt o2)
        replace o3 := own_below o3 b16 (own_lt o3)
        replace o6 := own_below o6 b16 (own_lt o6)
        replace o7 := own_below o7 b16 (own_lt o7)
        replace o8 := own_below o8 b16 (own_lt o8)
        replace o9 := own_below o9 b16 (own_lt o9)
        have zw16 := b16.size
        replace bb := bb.trans (b16.mono bb.size)
        clear b16
        have q0 := And.intro k23.four (k25.four)
        dsimp only
        refine hK.out _ _ (by first | (dsimp only; exact q0) | exact q0) (fun hHeld => ?_)
        clear q0 hK K
        try simp only [Act.put, List.setIfInBounds_toArray, List.set_cons_zero, List.set_cons_succ]
        refine' wpAnyH_take (i := 17) (oi := _) (v := _) ?hi17n742 (by kernel_rfl) (by kernel_rfl) (by kernel_rfl) ?hQ17n742 ?hy17n742 (by assumption) ?rest17n742
        case hi17n742 => (simp only [List.getElem?_toArray, List.getElem?_cons_succ, List.getElem?_cons_zero]; rfl)
        case hQ17n742 => exact fun _ _ _ h => h
        case hy17n742 => exact Or.inl ⟨by rfl, by (intro w hSw; (try dsimp only at hSw); go_simp; (try with_reducible rfl))⟩
        try simp only [Act.put, List.setIfInBounds_toArray, List.set_cons_zero, List.set_cons_succ]
        refine' wpAnyH_take (i := 18) (oi := _) (v := _) ?hi18n742 (by kernel_rfl) (by kernel_rfl) (by kernel_rfl) ?hQ18n742 ?hy18n742 (by assumption) ?rest18n742
        case hi18n742 => (simp only [List.getElem?_toArray, List.getElem?_cons_succ, List.getElem?_cons_zero]; rfl)
        case hQ18n742 => exact fun _ _ _ h => h
        case hy18n742 => exact Or.inl ⟨by rfl, by (intro w hSw; (try dsimp only at hSw); go_simp; (try with_reducible rfl))⟩
        try simp only [Act.put, List.setIfInBounds_toArray, List.set_cons_zero, List.set_cons_succ]
        refine' wpAnyH_take (i := 19) (oi := _) (v := _) ?hi19n742 (by kernel_rfl) (by kernel_rfl) (by kernel_rfl) ?hQ19n742 ?hy19n742 (by assumption) ?rest19n742
        case hi19n742 => (simp only [List.getElem?_toArray, List.getElem?_cons_succ, List.getElem?_cons_zero]; rfl)
        case hQ19n742 => exact fun _ _ _ h => h
        case hy19n742 => exact Or.inl ⟨by rfl, by (intro w hSw; (try dsimp only at hSw); go_simp; (try with_reducible rfl))⟩
        try simp only [Act.put, List.setIfInBounds_toArray, List.set_cons_zero, List.set_cons_succ]
        refine' wpAnyH_take (i := 20) (oi := _) (v := _) ?hi20n742 (by kernel_rfl) (by kernel_rfl) (by kernel_rfl) ?hQ20n742 ?hy20n742 (by assumption) ?rest20n742
        case hi20n742 => (simp only [List.getElem?_toArray, List.getElem?_cons_succ, List.getElem?_cons_zero]; rfl)
        case hQ20n742 => exact fun _ _ _ h => h
        case hy20n742 => exact Or.inl ⟨by rfl, by (intro w hSw; (try dsimp only at hSw); go_simp; (try with_reducible rfl))⟩
        try simp only [Act.put, List.setIfInBounds_toArray, List.set_cons_zero, List.set_cons_succ]
        refine' wpAnyH_take (i := 22) (oi := _) (v := _) ?hi22n742 (by kernel_rfl) (by kernel_rfl) (by kernel_rfl) ?hQ22n742 ?hy22n742 (by assumption) ?rest22n742
        case hi22n742 => (simp only [List.getElem?_toArray, List.getElem?_cons_succ, List.getElem?_cons_zero]; rfl)
        case hQ22n742 => exact fun _ _ _ h => h
        case hy22n742 => exact Or.inl ⟨by rfl, by (intro w hSw; (try dsimp only at hSw); go_simp; (try with_reducible rfl))⟩
        try simp only [Act.put, List.setIfInBounds_toArray, List.set_cons_zero, List.set_cons_succ]
        refine wpAnyH_ready (rs := [21]) (by kernel_rfl) (by simp) ?_
        refine AllReadyH.cons (by (simp only [List.getElem?_toArray, List.getElem?_cons_succ, List.getElem?_cons_zero]; rfl)) (fun K hK => ?_) AllReadyH.nil
        rw [if_pos (by rfl)]
        go_simp
        refine (M4.out _ _ _ (Rd.of_own o8)).mono ?_
        rintro e w17 ⟨rfl, b17⟩
        replace k3 := k3.below b17 k3.1
        replace k7 := k7.below b17 k7.1
        replace k23 := k23.below b17 k23.1
        replace k25 := k25.below b17 k25.1
        replace o1 := own_below o1 b17 (own_lt o1)
        replace o2 := own_below o2 b17 (own_lt o2)
        replace o3 := own_below o3 b17 (own_lt o3)
        replace o6 := own_below o6 b17 (own_lt o6)
        replace o7 := own_below o7 b17 (own_lt o7)
        replace o8 := own_below o8 b17 (own_lt o8)
        replace o9 := own_below o9 b17 (own_lt o9)
        have zw17 := b17.size
        replace bb := bb.trans (b17.mono bb.size)
        clear b17
        have q0 := And.intro k23.four (k25.four)
        dsimp only
        refine hK.out _ _ (by first | (dsimp only; exact q0) | exact q0) (fun hHeld => ?_)
        clear q0 hK K
        try simp only [Act.put, List.setIfInBounds_toArray, List.set_cons_zero, List.set_cons_succ]
        refine wpAnyH_ready (rs := [23]) (by kernel_rfl) (by simp) ?_
        refine AllReadyH.cons (by (simp only [List.getElem?_toArray, List.getElem?_cons_succ, List.getElem?_cons_zero]; rfl)) (fun K hK => ?_) AllReadyH.nil
        rw [if_pos (by rfl)]
        go_simp
        refine (M5.out _ _ _ (Rd.of_own o8)).mono ?_
        rintro e w18 ⟨rfl, b18⟩
        replace k3 := k3.below b18 k3.1
        replace k7 := k7.below b18 k7.1
        replace k23 := k23.below b18 k23.1
        replace k25 := k25.below b18 k25.1
        replace o1 := own_below o1 b18 (own_lt o1)
        replace o2 := own_below o2 b18 (own_lt o2)
        replace o3 := own_below o3 b18 (own_lt o3)
        replace o6 := own_below o6 b18 (own_lt o6)
        replace o7 := own_below o7 b18 (own_lt o7)
        replace o8 := own_below o8 b18 (own_lt o8)
        replace o9 := own_below o9 b18 (own_lt o9)
        have zw18 := b18.size
        replace bb := bb.trans (b18.mono bb.size)
        clear b18
        have q0 := And.intro k23.four (k25.four)
        dsimp only
        refine hK.out _ _ (by first | (dsimp only; exact q0) | exact q0) (fun hHeld => ?_)
        clear q0 hK K
        try simp only [Act.put, List.setIfInBounds_toArray, List.set_cons_zero, List.set_cons_succ]
        refine' wpAnyH_take (i := 24) (oi := _) (v := _) ?hi24n793 (by kernel_rfl) (by kernel_rfl) (by kernel_rfl) ?hQ24n793 ?hy24n793 (by assumption) ?rest24n793
        case hi24n793 => (simp only [List.getElem?_toArray, List.getElem?_cons_succ, List.getElem?_cons_zero]; rfl)
        case hQ24n793 => exact fun _ _ _ h => h
        case hy24n793 => exact Or.inl ⟨by rfl, by (intro w hSw; (try dsimp only at hSw); go_simp; (try with_reducible rfl))⟩
        try simp only [Act.put, List.setIfInBounds_toArray, List.set_cons_zero, List.set_cons_succ]
        refine' wpAnyH_take (i := 25) (oi := _) (v := _) ?hi25n793 (by kernel_rfl) (by kernel_rfl) (by kernel_rfl) ?hQ25n793 ?hy25n793 (by assumption) ?rest25n793
        case hi25n793 => (simp only [List.getElem?_toArray, List.getElem?_cons_succ, List.getElem?_cons_zero]; rfl)
        case hQ25n793 => exact fun _ _ _ h => h
        case hy25n793 => exact Or.inl ⟨by rfl, by (intro w hSw; (try dsimp only at hSw); go_simp; (try with_reducible rfl))⟩
        try simp only [Act.put, List.setIfInBounds_toArray, List.set_cons_zero, List.set_cons_succ]
        refine' wpAnyH_take (i := 26) (oi := _) (v := _) ?hi26n793 (by kernel_rfl) (by kernel_rfl) (by kernel_rfl) ?hQ26n793 ?hy26n793 (by assumption) ?rest26n793
        case hi26n793 => (simp only [List.getElem?_toArray, List.getElem?_cons_succ, List.getElem?_cons_zero]; rfl)
        case hQ26n793 => exact fun _ _ _ h => h
        case hy26n793 => exact Or.inl ⟨by rfl, by (intro w hSw; (try dsimp only at hSw); go_simp; (try with_reducible rfl))⟩
        try simp only [Act.put, List.setIfInBounds_toArray, List.set_cons_zero, List.set_cons_succ]
        refine' wpAnyH_take (i := 27) (oi := _) (v := _) ?hi27n793 (by kernel_rfl) (by kernel_rfl) (by kernel_rfl) ?hQ27n793 ?hy27n793 (by assumption) ?rest27n793
        case hi27n793 => (simp only [List.getElem?_toArray, List.getElem?_cons_succ, List.getElem?_cons_zero]; rfl)
        case hQ27n793 => exact fun _ _ _ h => h
        case hy27n793 => exact Or.inl ⟨by rfl, by (intro w hSw; (try dsimp only at hSw); go_simp; (try with_reducible rfl))⟩
        try simp only [Act.put, List.setIfInBounds_toArray, List.set_cons_zero, List.set_cons_succ]
        refine' wpAnyH_take (i := 28) (oi := _) (v := _) ?hi28n793 (by kernel_rfl) (by kernel_rfl) (by kernel_rfl) ?hQ28n793 ?hy28n793 (by assumption) ?rest28n793
        case hi28n793 => (simp only [List.getElem?_toArray, List.getElem?_cons_succ, List.getElem?_cons_zero]; rfl)
        case hQ28n793 => exact fun _ _ _ h => h
        case hy28n793 => exact Or.inl ⟨by rfl, by (intro w hSw; (try dsimp only at hSw); go_simp; (try with_reducible rfl))⟩
        try simp only [Act.put, List.setIfInBounds_toArray, List.set_cons_zero, List.set_cons_succ]
        refine' wpAnyH_take (i := 29) (oi := _) (v := _) ?hi29n793 (by kernel_rfl) (by kernel_rfl) (by kernel_rfl) ?hQ29n793 ?hy29n793 (by assumption) ?rest29n793
        case hi29n793 => (simp only [List.getElem?_toArray, List.getElem?_cons_succ, List.getElem?_cons_zero]; rfl)
        case hQ29n793 => exact fun _ _ _ h => h
        case hy29n793 => exact Or.inl ⟨by rfl, by (intro w hSw; (try dsimp only at hSw); go_simp; (try with_reducible rfl))⟩
        try simp only [Act.put, List.setIfInBounds_toArray, List.set_cons_zero, List.set_cons_succ]
        refine' wpAnyH_take (i := 30) (oi := _) (v := _) ?hi30n793 (by kernel_rfl) (by kernel_rfl) (by kernel_rfl) ?hQ30n793 ?hy30n793 (by assumption) ?rest30n793
        case hi30n793 => (simp only [List.getElem?_toArray, List.getElem?_cons_succ, List.getElem?_cons_zero]; rfl)
        case hQ30n793 => exact fun _ _ _ h => h
        case hy30n793 => exact Or.inl ⟨by rfl, by (intro w hSw; (try dsimp only at hSw); go_simp; (try with_reducible rfl))⟩
        try simp only [Act.put, List.setIfInBounds_toArray, List.set_cons_zero, List.set_cons_succ]
        refine' wpAnyH_take (i := 31) (oi := _) (v := _) ?hi31n793 (by kernel_rfl) (by kernel_rfl) (by kernel_rfl) ?hQ31n793 ?hy31n793 (by assumption) ?rest31n793
        case hi31n793 => (simp only [List.getElem?_toArray, List.getElem?_cons_succ, List.getElem?_cons_zero]; rfl)
        case hQ31n793 => exact fun _ _ _ h => h
        case hy31n793 => exact Or.inl ⟨by rfl, by (intro w hSw; (try dsimp only at hSw); go_simp; (try with_reducible rfl))⟩
        try simp only [Act.put, List.setIfInBounds_toArray, List.set_cons_zero, List.set_cons_succ]
        refine' wpAnyH_take (i := 32) (oi := _) (v := _) ?hi32n793 (by kernel_rfl) (by kernel_rfl) (by kernel_rfl) ?hQ32n793 ?hy32n793 (by assumption) ?rest32n793
        case hi32n793 => (simp only [List.getElem?_toArray, List.getElem?_cons_succ, List.getElem?_cons_zero]; rfl)
        case hQ32n793 => exact fun _ _ _ h => h
        case hy32n793 => exact Or.inl ⟨by rfl, by (intro w hSw; (try dsimp only at hSw); go_simp; (try with_reducible rfl))⟩
        try simp only [Act.put, List.setIfInBounds_toArray, List.set_cons_zero, List.set_cons_succ]
        refine' wpAnyH_take (i := 33) (oi := _) (v := _) ?hi33n793 (by kernel_rfl) (by kernel_rfl) (by kernel_rfl) ?hQ33n793 ?hy33n793 (by assumption) ?rest33n793
        case hi33n793 => (simp only [List.getElem?_toArray, List.getElem?_cons_succ, List.getElem?_cons_zero]; rfl)
        case hQ33n793 => exact fun _ _ _ h => h
        case hy33n793 => exact Or.inl ⟨by rfl, by (intro w hSw; (try dsimp only at hSw); go_simp; (try with_reducible rfl))⟩
        try simp only [Act.put, List.setIfInBounds_toArray, List.set_cons_zero, List.set_cons_succ]
        refine' wpAnyH_take (i := 34) (oi := _) (v := _) ?hi34n793 (by kernel_rfl) (by kernel_rfl) (by kernel_rfl) ?hQ34n793 ?hy34n793 (by assumption) ?rest34n793
        case hi34n793 => (simp only [List.getElem?_toArray, List.getElem?_cons_succ, List.getElem?_cons_zero]; rfl)
        case hQ34n793 => exact fun _ _ _ h => h
        case hy34n793 => exact Or.inl ⟨by rfl, by (intro w hSw; (try dsimp only at hSw); go_simp; (try with_reducible rfl))⟩
        try simp only [Act.put, List.setIfInBounds_toArray, List.set_cons_zero, List.set_cons_succ]
        refine wpAnyH_ready (rs := [35]) (by kernel_rfl) (by simp) ?_
        refine AllReadyH.cons (by (simp only [List.getElem?_toArray, List.getElem?_cons_succ, List.getElem?_cons_zero]; rfl)) (fun K hK => ?_) AllReadyH.nil
        rw [if_pos (by rfl)]
        go_simp
        refine (NO'.out _ _ _ (Rd.of_own o9)).mono ?_
        rintro e w19 ⟨rfl, b19⟩
        replace k3 := k3.below b19 k3.1
        replace k7 := k7.below b19 k7.1
        replace k23 := k23.below b19 k23.1
        replace k25 := k25.below b19 k25.1
        replace o1 := own_below o1 b19 (own_lt o1)
        replace o2 := own_below o2 b19 (own_lt o2)
        replace o3 := own_below o3 b19 (own_lt o3)
        replace o6 := own_below o6 b19 (own_lt o6)
        replace o7 := own_below o7 b19 (own_lt o7)
        replace o8 := own_below o8 b19 (own_lt o8)
        replace o9 := own_below o9 b19 (own_lt o9)
        have zw19 := b19.size
        replace bb := bb.trans (b19.mono bb.size)
        clear b19
        have q0 := And.intro k23.four (k25.four)
        dsimp only
        refine hK.out _ _ (by first | (dsimp only; exact q0) | exact q0) (fun hHeld => ?_)
        clear q0 hK K
        try simp only [Act.put, List.setIfInBounds_toArray, List.set_cons_zero, List.set_cons_succ]
        refine' wpAnyH_take (i := 36) (oi := _) (v := _) ?hi36n819 (by kernel_rfl) (by kernel_rfl) (by kernel_rfl) ?hQ36n819 ?hy36n819 (by assumption) ?rest36n819
        case hi36n819 => (simp only [List.getElem?_toArray, List.getElem?_cons_succ, List.getElem?_cons_zero]; rfl)
        case hQ36n819 => exact fun _ _ _ h => h
        case hy36n819 => exact Or.inl ⟨by rfl, by (intro w hSw; (try dsimp only at hSw); go_simp; (try with_reducible rfl))⟩
        try simp only [Act.put, List.setIfInBounds_toArray, List.set_cons_zero, List.set_cons_succ]
        refine' wpAnyH_take (i := 37) (oi := _) (v := _) ?hi37n819 (by kernel_rfl) (by kernel_rfl) (by kernel_rfl) ?hQ37n819 ?hy37n819 (by assumption) ?rest37n819
        case hi37n819 => (simp only [List.getElem?_toArray, List.getElem?_cons_succ, List.getElem?_cons_zero]; rfl)
        case hQ37n819 => exact fun _ _ _ h => h
        case hy37n819 => exact Or.inl ⟨by rfl, by (intro w hSw; (try dsimp only at hSw); go_simp; (try with_reducible rfl))⟩
        try simp only [Act.put, List.setIfInBounds_toArray, List.set_cons_zero, List.set_cons_succ]
        refine' wpAnyH_take (i := 38) (oi := _) (v := _) ?hi38n819 (by kernel_rfl) (by kernel_rfl) (by kernel_rfl) ?hQ38n819 ?hy38n819 (by assumption) ?rest38n819
        case hi38n819 => (simp only [List.getElem?_toArray, List.getElem?_cons_succ, List.getElem?_cons_zero]; rfl)
        case hQ38n819 => exact fun _ _ _ h => h
        case hy38n819 => exact Or.inl ⟨by rfl, by (intro w hSw; (try dsimp only at hSw); go_simp; (try with_reducible rfl))⟩
        try simp only [Act.put, List.setIfInBounds_toArray, List.set_cons_zero, List.set_cons_succ]
        refine wpAnyH_done (by kernel_rfl) ?_ _
        clear hHeld
        clear lo6 mo6
        clear lo7 mo7
        clear lo8 mo8
        clear lo9 mo9
        clear o6 o7 o8 o9 k23 k25
        clear hbo hbf hbt hrr
        have hP := HNO.out (by first | rfl | exact trivial)
        injection hP with hP1 hP2 hP3
        subst hP1
        subst hP2
        have ck3 := k3.2.1
        have yk3 := k3.1
        have ck7 := k7.2.1
        have yk7 := k7.1
        go_wp2_with fail
        clear ck3 yk3 ck7 yk7
        refine (sameHeap_same _ _ _ _ _ _ _ (Rd.of_own o3) (Rd.of_own o1)).mono ?_
        rintro e w20 ⟨rfl, b20⟩
        replace k3 := k3.below b20 k3.1
        replace k7 := k7.below b20 k7.1
        replace o1 := own_below o1 b20 (own_lt o1)
        replace o2 := own_below o2 b20 (own_lt o2)
        replace o3 := own_below o3 b20 (own_lt o3)
        have zw20 := b20.size
        replace bb := bb.trans (b20.mono bb.size)
        clear b20
        go_wp2
        go_ret
        exact ⟨rfl, bb⟩
    · go_wp2_with fail
      generalize hx : w1.alloc _ = xk3
      obtain ⟨bx, k3⟩ := Bx.alloc hx
      clear hx
      replace o1 := own_below o1 bx (own_lt o1)
      replace o2 := own_below o2 bx (own_lt o2)
      have zxk3 := bx.size
      replace bb := bb.trans (bx.mono bb.size)
      clear bx
      have uk3 := k3.1
      refine (A1.out _ _ _ _ (Rd.of_own o1) (Rd.of_own o2)).mono ?_
      rintro e w2 ⟨⟨v3, rfl, o3⟩, b2⟩
      have lo3 : ∀ k, v3.ownBlock = some k → xk3.heap.size ≤ k := fun k hk => (o3.lt k hk).1
      have mo3 := own_lt o3
      replace k3 := k3.below b2 k3.1
      replace o1 := own_below o1 b2 (own_lt o1)
      replace o2 := own_below o2 b2 (own_lt o2)
      have zw2 := b2.size
      replace bb := bb.trans (b2.mono bb.size)
      clear b2
      obtain ⟨ao3, do3, rfl⟩ := own_form o3
      have ck3 := k3.2.1
      have yk3 := k3.1
      go_wp2_with fail
      clear ck3 yk3
      generalize hx : w2.alloc _ = xk7
      obtain ⟨bx, k7⟩ := Bx.alloc hx
      clear hx
      replace k3 := k3.below bx k3.1
      replace o1 := own_below o1 bx (own_lt o1)
      replace o2 := own_below o2 bx (own_lt o2)
      replace o3 := own_below o3 bx (own_lt o3)
      have zxk7 := bx.size
      replace bb := bb.trans (bx.mono bb.size)
      clear bx
      have uk7 := k7.1
      refine (A2.out _ _ _ _ (Rd.of_own o1) (Rd.of_own o2)).mono ?_
      rintro e w3 ⟨⟨v4, rfl, o4⟩, b3⟩
      have lo4 : ∀ k, v4.ownBlock = some k → xk7.heap.size ≤ k := fun k hk => (o4.lt k hk).1
      have mo4 := own_lt o4
      replace k3 := k3.below b3 k3.1
      replace k7 := k7.below b3 k7.1
      replace o1 := own_below o1 b3 (own_lt o1)
      replace o2 := own_below o2 b3 (own_lt o2)
      replace o3 := own_below o3 b3 (own_lt o3)
      have zw3 := b3.size
      replace bb := bb.trans (b3.mono bb.size)
      clear b3
      obtain ⟨ao4, do4, rfl⟩ := own_form o4
      go_upto_region 6 with fail
      generalize hx : w3.alloc _ = xk10
      obtain ⟨bx, k10⟩ := Bx.alloc hx
      clear hx
      replace k3 := k3.below bx k3.1
      replace k7 := k7.below bx k7.1
      replace o1 := own_below o1 bx (own_lt o1)
      replace o2 := own_below o2 bx (own_lt o2)
      replace o3 := own_below o3 bx (own_lt o3)
      replace o4 := own_below o4 bx (own_lt o4)
      have zxk10 := bx.size
      replace bb := bb.trans (bx.mono bb.size)
      clear bx
      have uk10 := k10.1
      have q0 := And.intro k3.four (And.intro k7.four (k10.four))
      refine wp_region_held_drew (S := (fun w' => (w'.cell? ⟨w1.heap.size, 0, none⟩ = some (.slice ao1 ws.length do1) ∧ w'.cell? ⟨w1.heap.size, 1, none⟩ = some (.int .i64 h) ∧ w'.cell? ⟨w1.heap.size, 2, none⟩ = some (.int .i64 b) ∧ w'.cell? ⟨w1.heap.size, 3, none⟩ = some (.int .i64 n)) ∧ (w'.cell? ⟨w2.heap.size, 0, none⟩ = some (.slice ao3 qs.length do3) ∧ w'.cell? ⟨w2.heap.size, 1, none⟩ = some (.int .i64 h) ∧ w'.cell? ⟨w2.heap.size, 2, none⟩ = some (.int .i64 b) ∧ w'.cell? ⟨w2.heap.size, 3, none⟩ = some (.int .i64 qn)) ∧ (w'.cell? ⟨w3.heap.size, 0, none⟩ = some (.slice ao4 qs.length do4) ∧ w'.cell? ⟨w3.heap.size, 1, none⟩ = some (.int .i64 h) ∧ w'.cell? ⟨w3.heap.size, 2, none⟩ = some (.int .i64 b) ∧ w'.cell? ⟨w3.heap.size, 3, none⟩ = some (.int .i64 qn)))) (by kernel_rfl) (by first | (dsimp only; exact q0) | (exact q0)) (fun hHeld => ?_)
      refine' wpAnyH_take (i := 0) (oi := _) (v := _) ?hi0n916 (by kernel_rfl) (by kernel_rfl) (by kernel_rfl) ?hQ0n916 ?hy0n916 (by assumption) ?rest0n916
      case hi0n916 => (simp only [List.getElem?_toArray, List.getElem?_cons_zero]; rfl)
      case hQ0n916 => exact fun _ _ _ h => h
      case hy0n916 => exact Or.inl ⟨by rfl, by (intro w hSw; (try dsimp only at hSw); go_simp; (try with_reducible rfl))⟩
      try simp only [Act.put, List.setIfInBounds_toArray, List.set_cons_zero, List.set_cons_succ]
      refine' wpAnyH_take (i := 1) (oi := _) (v := _) ?hi1n916 (by kernel_rfl) (by kernel_rfl) (by kernel_rfl) ?hQ1n916 ?hy1n916 (by assumption) ?rest1n916
      case hi1n916 => (simp only [List.getElem?_toArray, List.getElem?_cons_succ, List.getElem?_cons_zero]; rfl)
      case hQ1n916 => exact fun _ _ _ h => h
      case hy1n916 => exact Or.inl ⟨by rfl, by (intro w hSw; (try dsimp only at hSw); go_simp; (try with_reducible rfl))⟩
      try simp only [Act.put, List.setIfInBounds_toArray, List.set_cons_zero, List.set_cons_succ]
      refine' wpAnyH_take (i := 2) (oi := _) (v := _) ?hi2n916 (by kernel_rfl) (by kernel_rfl) (by kernel_rfl) ?hQ2n916 ?hy2n916 (by assumption) ?rest2n916
      case hi2n916 => (simp only [List.getElem?_toArray, List.getElem?_cons_succ, List.getElem?_cons_zero]; rfl)
      case hQ2n916 => exact fun _ _ _ h => h
      case hy2n916 => exact Or.inl ⟨by rfl, by (intro w hSw; (try dsimp only at hSw); go_simp; (try with_reducible rfl))⟩
      try simp only [Act.put, List.setIfInBounds_toArray, List.set_cons_zero, List.set_cons_succ]
      refine' wpAnyH_take (i := 3) (oi := _) (v := _) ?hi3n916 (by kernel_rfl) (by kernel_rfl) (by kernel_rfl) ?hQ3n916 ?hy3n916 (by assumption) ?rest3n916
      case hi3n916 => (simp only [List.getElem?_toArray, List.getElem?_cons_succ, List.getElem?_cons_zero]; rfl)
      case hQ3n916 => exact fun _ _ _ h => h
      case hy3n916 => exact Or.inl ⟨by rfl, by (intro w hSw; (try dsimp only at hSw); go_simp; (try with_reducible rfl))⟩
      try simp only [Act.put, List.setIfInBounds_toArray, List.set_cons_zero, List.set_cons_succ]
      refine' wpAnyH_take (i := 4) (oi := _) (v := _) ?hi4n916 (by kernel_rfl) (by kernel_rfl) (by kernel_rfl) ?hQ4n916 ?hy4n916 (by assumption) ?rest4n916
      case hi4n916 => (simp only [List.getElem?_toArray, List.getElem?_cons_succ, List.getElem?_cons_zero]; rfl)
      case hQ4n916 => exact fun _ _ _ h => h
      case hy4n916 => exact Or.inl ⟨by rfl, by (intro w hSw; (try dsimp only at hSw); go_simp; (try with_reducible rfl))⟩
      try simp only [Act.put, List.setIfInBounds_toArray, List.set_cons_zero, List.set_cons_succ]
      refine' wpAnyH_take (i := 5) (oi := _) (v := _) ?hi5n916 (by kernel_rfl) (by kernel_rfl) (by kernel_rfl) ?hQ5n916 ?hy5n916 (by assumption) ?rest5n916
      case hi5n916 => (simp only [List.getElem?_toArray, List.getElem?_cons_succ, List.getElem?_cons_zero]; rfl)
      case hQ5n916 => exact fun _ _ _ h => h
      case hy5n916 => exact Or.inl ⟨by rfl, by (intro w hSw; (try dsimp only at hSw); go_simp; (try with_reducible rfl))⟩
      try simp only [Act.put, List.setIfInBounds_toArray, List.set_cons_zero, List.set_cons_succ]
      refine' wpAnyH_take (i := 6) (oi := _) (v := _) ?hi6n916 (by kernel_rfl) (by kernel_rfl) (by kernel_rfl) ?hQ6n916 ?hy6n916 (by assumption) ?rest6n916
      case hi6n916 => (simp only [List.getElem?_toArray, List.getElem?_cons_succ, List.getElem?_cons_zero]; rfl)
      case hQ6n916 => exact fun _ _ _ h => h
      case hy6n916 => exact Or.inl ⟨by rfl, by (intro w hSw; (try dsimp only at hSw); go_simp; (try with_reducible rfl))⟩
      try simp only [Act.put, List.setIfInBounds_toArray, List.set_cons_zero, List.set_cons_succ]
      refine' wpAnyH_take (i := 7) (oi := _) (v := _) ?hi7n916 (by kernel_rfl) (by kernel_rfl) (by kernel_rfl) ?hQ7n916 ?hy7n916 (by assumption) ?rest7n916
      case hi7n916 => (simp only [List.getElem?_toArray, List.getElem?_cons_succ, List.getElem?_cons_zero]; rfl)
      case hQ7n916 => exact fun _ _ _ h => h
      case hy7n916 => exact Or.inl ⟨by rfl, by (intro w hSw; (try dsimp only at hSw); go_simp; (try with_reducible rfl))⟩
      try simp only [Act.put, List.setIfInBounds_toArray, List.set_cons_zero, List.set_cons_succ]
      refine' wpAnyH_take (i := 8) (oi := _) (v := _) ?hi8n916 (by kernel_rfl) (by kernel_rfl) (by kernel_rfl) ?hQ8n916 ?hy8n916 (by assumption) ?rest8n916
      case hi8n916 => (simp only [List.getElem?_toArray, List.getElem?_cons_succ, List.getElem?_cons_zero]; rfl)
      case hQ8n916 => exact fun _ _ _ h => h
      case hy8n916 => exact Or.inl ⟨by rfl, by (intro w hSw; (try dsimp only at hSw); go_simp; (try with_reducible rfl))⟩
      try simp only [Act.put, List.setIfInBounds_toArray, List.set_cons_zero, List.set_cons_succ]
      refine' wpAnyH_take (i := 9) (oi := _) (v := _) ?hi9n916 (by kernel_rfl) (by kernel_rfl) (by kernel_rfl) ?hQ9n916 ?hy9n916 (by assumption) ?rest9n916
      case hi9n916 => (simp only [List.getElem?_toArray, List.getElem?_cons_succ, List.getElem?_cons_zero]; rfl)
      case hQ9n916 => exact fun _ _ _ h => h
      case hy9n916 => exact Or.inl ⟨by rfl, by (intro w hSw; (try dsimp only at hSw); go_simp; (try with_reducible rfl))⟩
      try simp only [Act.put, List.setIfInBounds_toArray, List.set_cons_zero, List.set_cons_succ]
      refine' wpAnyH_take (i := 10) (oi := _) (v := _) ?hi10n916 (by kernel_rfl) (by kernel_rfl) (by kernel_rfl) ?hQ10n916 ?hy10n916 (by assumption) ?rest10n916
      case hi10n916 => (simp only [List.getElem?_toArray, List.getElem?_cons_succ, List.getElem?_cons_zero]; rfl)
      case hQ10n916 => exact fun _ _ _ h => h
      case hy10n916 => exact Or.inl ⟨by rfl, by (intro w hSw; (try dsimp only at hSw); go_simp; (try with_reducible rfl))⟩
      try simp only [Act.put, List.setIfInBounds_toArray, List.set_cons_zero, List.set_cons_succ]
      obtain ⟨xd4, hxw⟩ : ∃ xd, xk10.drew = xd := ⟨_, rfl⟩
      rw [hxw] at hHeld ⊢
      have bd : Below xk10.heap.size xk10 xd4 := by rw [← hxw]; exact (Below.refl _ _).drew
      clear hxw q0
      replace k3 := k3.below bd k3.1
      replace k7 := k7.below bd k7.1
      replace k10 := k10.below bd k10.1
      replace o1 := own_below o1 bd (own_lt o1)
      replace o2 := own_below o2 bd (own_lt o2)
      replace o3 := own_below o3 bd (own_lt o3)
      replace o4 := own_below o4 bd (own_lt o4)
      have zxd4 := bd.size
      replace bb := bb.trans (bd.mono bb.size)
      clear bd
      refine wpAnyH_ready (rs := [11]) (by kernel_rfl) (by simp) ?_
      refine AllReadyH.cons (by (simp only [List.getElem?_toArray, List.getElem?_cons_succ, List.getElem?_cons_zero]; rfl)) (fun K hK => ?_) AllReadyH.nil
      rw [if_pos (by rfl)]
      go_simp
      refine (sameHeap_same _ _ _ _ _ _ _ (Rd.of_own o3) (Rd.of_own o4)).mono ?_
      rintro e w5 ⟨rfl, b5⟩
      replace k3 := k3.below b5 k3.1
      replace k7 := k7.below b5 k7.1
      replace k10 := k10.below b5 k10.1
      replace o1 := own_below o1 b5 (own_lt o1)
      replace o2 := own_below o2 b5 (own_lt o2)
      replace o3 := own_below o3 b5 (own_lt o3)
      replace o4 := own_below o4 b5 (own_lt o4)
      have zw5 := b5.size
      replace bb := bb.trans (b5.mono bb.size)
      clear b5
      have q0 := And.intro k3.four (And.intro k7.four (k10.four))
      dsimp only
      refine hK.out _ _ (by first | (dsimp only; exact q0) | exact q0) (fun hHeld => ?_)
      clear q0 hK K
      try simp only [Act.put, List.setIfInBounds_toArray, List.set_cons_zero, List.set_cons_succ]
      refine' wpAnyH_take (i := 12) (oi := _) (v := _) ?hi12n952 (by kernel_rfl) (by kernel_rfl) (by kernel_rfl) ?hQ12n952 ?hy12n952 (by assumption) ?rest12n952
      case hi12n952 => (simp only [List.getElem?_toArray, List.getElem?_cons_succ, List.getElem?_cons_zero]; rfl)
      case hQ12n952 => exact fun _ _ _ h => h
      case hy12n952 => exact Or.inl ⟨by rfl, by (intro w hSw; (try dsimp only at hSw); go_simp; (try with_reducible rfl))⟩
      try simp only [Act.put, List.setIfInBounds_toArray, List.set_cons_zero, List.set_cons_succ]
      refine' wpAnyH_take (i := 13) (oi := _) (v := _) ?hi13n952 (by kernel_rfl) (by kernel_rfl) (by kernel_rfl) ?hQ13n952 ?hy13n952 (by assumption) ?rest13n952
      case hi13n952 => (simp only [List.getElem?_toArray, List.getElem?_cons_succ, List.getElem?_cons_zero]; rfl)
      case hQ13n952 => exact fun _ _ _ h => h
      case hy13n952 => exact Or.inl ⟨by rfl, by (intro w hSw; (try dsimp only at hSw); go_simp; (try with_reducible rfl))⟩
      try simp only [Act.put, List.setIfInBounds_toArray, List.set_cons_zero, List.set_cons_succ]
      refine' wpAnyH_take (i := 14) (oi := _) (v := _) ?hi14n952 (by kernel_rfl) (by kernel_rfl) (by kernel_rfl) ?hQ14n952 ?hy14n952 (by assumption) ?rest14n952
      case hi14n952 => (simp only [List.getElem?_toArray, List.getElem?_cons_succ, List.getElem?_cons_zero]; rfl)
      case hQ14n952 => exact fun _ _ _ h => h
      case hy14n952 => exact Or.inl ⟨by rfl, by (intro w hSw; (try dsimp only at hSw); go_simp; (try with_reducible rfl))⟩
      try simp only [Act.put, List.setIfInBounds_toArray, List.set_cons_zero, List.set_cons_succ]
      refine' wpAnyH_take (i := 15) (oi := _) (v := _) ?hi15n952 (by kernel_rfl) (by kernel_rfl) (by kernel_rfl) ?hQ15n952 ?hy15n952 (by assumption) ?rest15n952
      case hi15n952 => (simp only [List.getElem?_toArray, List.getElem?_cons_succ, List.getElem?_cons_zero]; rfl)
      case hQ15n952 => exact fun _ _ _ h => h
      case hy15n952 => exact Or.inl ⟨by rfl, by (intro w hSw; (try dsimp only at hSw); go_simp; (try with_reducible rfl))⟩
      try simp only [Act.put, List.setIfInBounds_toArray, List.set_cons_zero, List.set_cons_succ]
      refine' wpAnyH_take (i := 17) (oi := _) (v := _) ?hi17n952 (by kernel_rfl) (by kernel_rfl) (by kernel_rfl) ?hQ17n952 ?hy17n952 (by assumption) ?rest17n952
      case hi17n952 => (simp only [List.getElem?_toArray, List.getElem?_cons_succ, List.getElem?_cons_zero]; rfl)
      case hQ17n952 => exact fun _ _ _ h => h
      case hy17n952 => exact Or.inl ⟨by rfl, by (intro w hSw; (try dsimp only at hSw); go_simp; (try with_reducible rfl))⟩
      try simp only [Act.put, List.setIfInBounds_toArray, List.set_cons_zero, List.set_cons_succ]
      refine wpAnyH_ready (rs := [16]) (by kernel_rfl) (by simp) ?_
      refine AllReadyH.cons (by (simp only [List.getElem?_toArray, List.getElem?_cons_succ, List.getElem?_cons_zero]; rfl)) (fun K hK => ?_) AllReadyH.nil
      rw [if_pos (by rfl)]
      go_simp
      refine (O1.out _ _ _ (Rd.of_own o1)).mono ?_
      rintro e w6 ⟨rfl, b6⟩
      replace k3 := k3.below b6 k3.1
      replace k7 := k7.below b6 k7.1
      replace k10 := k10.below b6 k10.1
      replace o1 := own_below o1 b6 (own_lt o1)
      replace o2 := own_below o2 b6 (own_lt o2)
      replace o3 := own_below o3 b6 (own_lt o3)
      replace o4 := own_below o4 b6 (own_lt o4)
      have zw6 := b6.size
      replace bb := bb.trans (b6.mono bb.size)
      clear b6
      have q0 := And.intro k3.four (And.intro k7.four (k10.four))
      dsimp only
      refine hK.out _ _ (by first | (dsimp only; exact q0) | exact q0) (fun hHeld => ?_)
      clear q0 hK K
      try simp only [Act.put, List.setIfInBounds_toArray, List.set_cons_zero, List.set_cons_succ]
      refine wpAnyH_ready (rs := [18]) (by kernel_rfl) (by simp) ?_
      refine AllReadyH.cons (by (simp only [List.getElem?_toArray, List.getElem?_cons_succ, List.getElem?_cons_zero]; rfl)) (fun K hK => ?_) AllReadyH.nil
      rw [if_pos (by rfl)]
      go_simp
      refine (O2.out _ _ _ (Rd.of_own o1)).mono ?_
      rintro e w7 ⟨rfl, b7⟩
      replace k3 := k3.below b7 k3.1
      replace k7 := k7.below b7 k7.1
      replace k10 := k10.below b7 k10.1
      replace o1 := own_below o1 b7 (own_lt o1)
      replace o2 := own_below o2 b7 (own_lt o2)
      replace o3 := own_below o3 b7 (own_lt o3)
      replace o4 := own_below o4 b7 (own_lt o4)
      have zw7 := b7.size
      replace bb := bb.trans (b7.mono bb.size)
      clear b7
      have q0 := And.intro k3.four (And.intro k7.four (k10.four))
      dsimp only
      refine hK.out _ _ (by first | (dsimp only; exact q0) | exact q0) (fun hHeld => ?_)
      clear q0 hK K
      try simp only [Act.put, List.setIfInBounds_toArray, List.set_cons_zero, List.set_cons_succ]
      refine' wpAnyH_take (i := 19) (oi := _) (v := _) ?hi19n995 (by kernel_rfl) (by kernel_rfl) (by kernel_rfl) ?hQ19n995 ?hy19n995 (by assumption) ?rest19n995
      case hi19n995 => (simp only [List.getElem?_toArray, List.getElem?_cons_succ, List.getElem?_cons_zero]; rfl)
      case hQ19n995 => exact fun _ _ _ h => h
      case hy19n995 => exact Or.inl ⟨by rfl, by (intro w hSw; (try dsimp only at hSw); go_simp; (try with_reducible rfl))⟩
      try simp only [Act.put, List.setIfInBounds_toArray, List.set_cons_zero, List.set_cons_succ]
      refine' wpAnyH_take (i := 20) (oi := _) (v := _) ?hi20n995 (by kernel_rfl) (by kernel_rfl) (by kernel_rfl) ?hQ20n995 ?hy20n995 (by assumption) ?rest20n995
      case hi20n995 => (simp only [List.getElem?_toArray, List.getElem?_cons_succ, List.getElem?_cons_zero]; rfl)
      case hQ20n995 => exact fun _ _ _ h => h
      case hy20n995 => exact Or.inl ⟨by rfl, by (intro w hSw; (try dsimp only at hSw); go_simp; (try with_reducible rfl))⟩
      try simp only [Act.put, List.setIfInBounds_toArray, List.set_cons_zero, List.set_cons_succ]
      refine wpAnyH_done (by kernel_rfl) ?_ _
      clear hHeld
      clear lo4 mo4
      clear o4 k10
      go_wp2_with fail
      refine (H2.out _ bb).mono ?_
      rintro e w8 ⟨⟨v5, xs, xh, xb, xn, xp, rfl, ⟨o5, xin⟩, hxp⟩, b8⟩
      have lo5 : ∀ k, v5.ownBlock = some k → w7.heap.size ≤ k := fun k hk => (o5.lt k hk).1
      have mo5 := own_lt o5
      replace k3 := k3.below b8 k3.1
      replace k7 := k7.below b8 k7.1
      replace o1 := own_below o1 b8 (own_lt o1)
      replace o2 := own_below o2 b8 (own_lt o2)
      replace o3 := own_below o3 b8 (own_lt o3)
      have zw8 := b8.size
      replace bb := bb.trans (b8.mono bb.size)
      clear b8
      obtain ⟨ao5, do5, rfl⟩ := own_form o5
      obtain ⟨bf, bt, bz, bo, hbz, hB⟩ := told_form xs (blockOf xs xh xb xn xp)
      have hxl := xin.le
      have hB1 := fun (B : Nat) (v : Value) (W : World) (hr : Rd B .i64 W v xs) => (iBlockAt_any v xs xh xb xn xp W hr xin.ok (by omega) xin.h xin.b xin.n).mono (fun e w' hh => And.intro (hB W e w' hh.1) hh.2)
      have hB2 := fun (B : Nat) (v : Value) (W : World) (hr : Rd B .i64 W v xs) => (sBlockAt_any v xs xh xb xn xp W hr xin.ok (by omega) xin.h xin.b xin.n).mono (fun e w' hh => And.intro (hB W e w' hh.1) hh.2)
      have B1 := Lib.hid hB1
      have B2 := Lib.hid hB2
      have hbo : (bo != bo) = false := by cases bo <;> rfl
      have hbf : (bf != bf) = false := by cases bf <;> rfl
      have hbt : (bt != bt) = false := by simp
      clear hB1 hB2 hB xin hxp hbz hxl
      go_wp2_with fail
      generalize hx : w8.alloc _ = xk13
      obtain ⟨bx, k13⟩ := Bx.alloc hx
      clear hx
      replace k3 := k3.below bx k3.1
      replace k7 := k7.below bx k7.1
      replace o1 := own_below o1 bx (own_lt o1)
      replace o2 := own_below o2 bx (own_lt o2)
      replace o3 := own_below o3 bx (own_lt o3)
      replace o5 := own_below o5 bx (own_lt o5)
      have zxk13 := bx.size
      replace bb := bb.trans (bx.mono bb.size)
      clear bx
      have uk13 := k13.1
      refine (B1.out _ _ _ (Rd.of_own o5)).mono ?_
      rintro e w9 ⟨⟨u6, rfl, o6⟩, b9⟩
      have lo6 : ∀ k, u6.ownBlock = some k → xk13.heap.size ≤ k := fun k hk => (o6.lt k hk).1
      have mo6 := own_lt o6
      replace k3 := k3.below b9 k3.1
      replace k7 := k7.below b9 k7.1
      replace k13 := k13.below b9 k13.1
      replace o1 := own_below o1 b9 (own_lt o1)
      replace o2 := own_below o2 b9 (own_lt o2)
      replace o3 := own_below o3 b9 (own_lt o3)
      replace o5 := own_below o5 b9 (own_lt o5)
      have zw9 := b9.size
      replace bb := bb.trans (b9.mono bb.size)
      clear b9
      obtain ⟨ao6, do6, rfl⟩ := own_form o6
      have ck13 := k13.2.1
      have yk13 := k13.1
      go_wp2_with fail
      clear ck13 yk13
      refine (B2.out _ _ _ (Rd.of_own o5)).mono ?_
      rintro e w10 ⟨⟨u7, rfl, o7⟩, b10⟩
      have lo7 : ∀ k, u7.ownBlock = some k → w9.heap.size ≤ k := fun k hk => (o7.lt k hk).1
      have mo7 := own_lt o7
      replace k3 := k3.below b10 k3.1
      replace k7 := k7.below b10 k7.1
      replace k13 := k13.below b10 k13.1
      replace o1 := own_below o1 b10 (own_lt o1)
      replace o2 := own_below o2 b10 (own_lt o2)
      replace o3 := own_below o3 b10 (own_lt o3)
      replace o5 := own_below o5 b10 (own_lt o5)
      replace o6 := own_below o6 b10 (own_lt o6)
      have zw10 := b10.size
      replace bb := bb.trans (b10.mono bb.size)
      clear b10
      obtain ⟨ao7, do7, rfl⟩ := own_form o7
      clear lo5 mo5
      clear o5 k13
      go_wp2_with fail
      refine (H3.out _ bb).mono ?_
      rintro e w11 ⟨⟨v8, rs, rh, rb, rn, rfl, ⟨o8, rin⟩⟩, b11⟩
      have lo8 : ∀ k, v8.ownBlock = some k → w10.heap.size ≤ k := fun k hk => (o8.lt k hk).1
      have mo8 := own_lt o8
      replace k3 := k3.below b11 k3.1
      replace k7 := k7.below b11 k7.1
      replace o1 := own_below o1 b11 (own_lt o1)
      replace o2 := own_below o2 b11 (own_lt o2)
      replace o3 := own_below o3 b11 (own_lt o3)
      replace o6 := own_below o6 b11 (own_lt o6)
      replace o7 := own_below o7 b11 (own_lt o7)
      have zw11 := b11.size
      replace bb := bb.trans (b11.mono bb.size)
      clear b11
      obtain ⟨ao8, do8, rfl⟩ := own_form o8
      have hrl := rin.le
      have hM4 := fun (B : Nat) (v : Value) (W : World) (hr : Rd B .i64 W v rs) => iRoom_any v rs rh rb rn W hr rin.ok (by omega) rin.h rin.b rin.n
      have hM5 := fun (B : Nat) (v : Value) (W : World) (hr : Rd B .i64 W v rs) => sRoom_any v rs rh rb rn W hr rin.ok (by omega) rin.h rin.b rin.n
      obtain ⟨rm, hrm⟩ : ∃ r, roomOf rs rh rb rn = r := ⟨_, rfl⟩
      rw [hrm] at hM4 hM5
      have M4 := Lib.hid hM4
      have M5 := Lib.hid hM5
      have hrr : (rm != rm) = false := by simp
      clear hM4 hM5 hrm rin hrl
      go_wp2_with fail
      generalize hx : w11.alloc _ = xk23
      obtain ⟨bx, k23⟩ := Bx.alloc hx
      clear hx
      replace k3 := k3.below bx k3.1
      replace k7 := k7.below bx k7.1
      replace o1 := own_below o1 bx (own_lt o1)
      replace o2 := own_below o2 bx (own_lt o2)
      replace o3 := own_below o3 bx (own_lt o3)
      replace o6 := own_below o6 bx (own_lt o6)
      replace o7 := own_below o7 bx (own_lt o7)
      replace o8 := own_below o8 bx (own_lt o8)
      have zxk23 := bx.size
      replace bb := bb.trans (bx.mono bb.size)
      clear bx
      have uk23 := k23.1
      refine (H4.out _ bb).mono ?_
      rintro e w12 ⟨⟨nn, rfl, hnn⟩, b12⟩
      replace k3 := k3.below b12 k3.1
      replace k7 := k7.below b12 k7.1
      replace k23 := k23.below b12 k23.1
      replace o1 := own_below o1 b12 (own_lt o1)
      replace o2 := own_below o2 b12 (own_lt o2)
      replace o3 := own_below o3 b12 (own_lt o3)
      replace o6 := own_below o6 b12 (own_lt o6)
      replace o7 := own_below o7 b12 (own_lt o7)
      replace o8 := own_below o8 b12 (own_lt o8)
      have zw12 := b12.size
      replace bb := bb.trans (b12.mono bb.size)
      clear b12
      have hN1 := fun (W : World) => iHeapNew_any nn W
      have hN2 := fun (W : World) => sHeapNew_any nn W
      have hnl := newWords_len nn
      have hNO := fun (hm : inB nn 1 3000 = true) (B : Nat) (v : Value) (W : World) (hr : Rd B .i64 W v (newWords nn)) => iHeapOk_new hnn hm v W hr
      obtain ⟨nw, hnw⟩ : ∃ r, newWords nn = r := ⟨_, rfl⟩
      rw [hnw] at hN1 hN2 hnl hNO
      obtain ⟨mk, hmk⟩ : ∃ r, inB nn 1 3000 = r := ⟨_, rfl⟩
      rw [hmk] at hN1 hN2 hNO
      have N1 := Lib.hid hN1
      have N2 := Lib.hid hN2
      have NO := Lib.hid hNO
      clear hN1 hN2 hNO hnw hmk hnn hnl
      cases mk
      · have q1 := N1.out
        have q2 := N2.out
        rw [if_neg (by decide)] at q1 q2
        have N1' := Lib.hid q1
        have N2' := Lib.hid q2
        clear N1 N2 NO q1 q2
        go_wp2_with fail
        refine (N1'.out _).mono ?_
        rintro e w13 ⟨v9, rfl, o9, b13⟩
        have lo9 : ∀ k, v9.ownBlock = some k → w12.heap.size ≤ k := fun k hk => (o9.lt k hk).1
        have mo9 := own_lt o9
        replace k3 := k3.below b13 k3.1
        replace k7 := k7.below b13 k7.1
        replace k23 := k23.below b13 k23.1
        replace o1 := own_below o1 b13 (own_lt o1)
        replace o2 := own_below o2 b13 (own_lt o2)
        replace o3 := own_below o3 b13 (own_lt o3)
        replace o6 := own_below o6 b13 (own_lt o6)
        replace o7 := own_below o7 b13 (own_lt o7)
        replace o8 := own_below o8 b13 (own_lt o8)
        have zw13 := b13.size
        replace bb := bb.trans (b13.mono bb.size)
        clear b13
        obtain ⟨ao9, do9, rfl⟩ := own_form o9
        go_wp2_with fail
        generalize hx : w13.alloc _ = xk25
        obtain ⟨bx, k25⟩ := Bx.alloc hx
        clear hx
        replace k3 := k3.below bx k3.1
        replace k7 := k7.below bx k7.1
        replace k23 := k23.below bx k23.1
        replace o1 := own_below o1 bx (own_lt o1)
        replace o2 := own_below o2 bx (own_lt o2)
        replace o3 := own_below o3 bx (own_lt o3)
        replace o6 := own_below o6 bx (own_lt o6)
        replace o7 := own_below o7 bx (own_lt o7)
        replace o8 := own_below o8 bx (own_lt o8)
        replace o9 := own_below o9 bx (own_lt o9)
        have zxk25 := bx.size
        replace bb := bb.trans (bx.mono bb.size)
        clear bx
        have uk25 := k25.1
        refine (N2'.out _).mono ?_
        rintro e w14 ⟨v10, rfl, o10, b14⟩
        have lo10 : ∀ k, v10.ownBlock = some k → xk25.heap.size ≤ k := fun k hk => (o10.lt k hk).1
        have mo10 := own_lt o10
        replace k3 := k3.below b14 k3.1
        replace k7 := k7.below b14 k7.1
        replace k23 := k23.below b14 k23.1
        replace k25 := k25.below b14 k25.1
        replace o1 := own_below o1 b14 (own_lt o1)
        replace o2 := own_below o2 b14 (own_lt o2)
        replace o3 := own_below o3 b14 (own_lt o3)
        replace o6 := own_below o6 b14 (own_lt o6)
        replace o7 := own_below o7 b14 (own_lt o7)
        replace o8 := own_below o8 b14 (own_lt o8)
        replace o9 := own_below o9 b14 (own_lt o9)
        have zw14 := b14.size
        replace bb := bb.trans (b14.mono bb.size)
        clear b14
        obtain ⟨ao10, do10, rfl⟩ := own_form o10
        go_upto_region 15 with fail
        generalize hx : w14.alloc _ = xk27
        obtain ⟨bx, k27⟩ := Bx.alloc hx
        clear hx
        replace k3 := k3.below bx k3.1
        replace k7 := k7.below bx k7.1
        replace k23 := k23.below bx k23.1
        replace k25 := k25.below bx k25.1
        replace o1 := own_below o1 bx (own_lt o1)
        replace o2 := own_below o2 bx (own_lt o2)
        replace o3 := own_below o3 bx (own_lt o3)
        replace o6 := own_below o6 bx (own_lt o6)
        replace o7 := own_below o7 bx (own_lt o7)
        replace o8 := own_below o8 bx (own_lt o8)
        replace o9 := own_below o9 bx (own_lt o9)
        replace o10 := own_below o10 bx (own_lt o10)
        have zxk27 := bx.size
        replace bb := bb.trans (bx.mono bb.size)
        clear bx
        have uk27 := k27.1
        clear lo10 mo10
        clear k27 o10
        have q0 := And.intro k23.four (k25.four)
        refine wp_region_held_drew (S := (fun w' => (w'.cell? ⟨w11.heap.size, 0, none⟩ = some (.slice ao8 rs.length do8) ∧ w'.cell? ⟨w11.heap.size, 1, none⟩ = some (.int .i64 rh) ∧ w'.cell? ⟨w11.heap.size, 2, none⟩ = some (.int .i64 rb) ∧ w'.cell? ⟨w11.heap.size, 3, none⟩ = some (.int .i64 rn)) ∧ (w'.cell? ⟨w13.heap.size, 0, none⟩ = some (.slice ao9 nw.length do9) ∧ w'.cell? ⟨w13.heap.size, 1, none⟩ = some (.int .i64 0) ∧ w'.cell? ⟨w13.heap.size, 2, none⟩ = some (.int .i64 0) ∧ w'.cell? ⟨w13.heap.size, 3, none⟩ = some (.int .i64 0)))) (by kernel_rfl) (by first | (dsimp only; exact q0) | (exact q0)) (fun hHeld => ?_)
        refine' wpAnyH_take (i := 0) (oi := _) (v := _) ?hi0n1228 (by kernel_rfl) (by kernel_rfl) (by kernel_rfl) ?hQ0n1228 ?hy0n1228 (by assumption) ?rest0n1228
        case hi0n1228 => (simp only [List.getElem?_toArray, List.getElem?_cons_zero]; rfl)
        case hQ0n1228 => exact fun _ _ _ h => h
        case hy0n1228 => exact Or.inl ⟨by rfl, by (intro w hSw; (try dsimp only at hSw); go_simp; (try with_reducible rfl))⟩
        try simp only [Act.put, List.setIfInBounds_toArray, List.set_cons_zero, List.set_cons_succ]
        refine' wpAnyH_take (i := 1) (oi := _) (v := _) ?hi1n1228 (by kernel_rfl) (by kernel_rfl) (by kernel_rfl) ?hQ1n1228 ?hy1n1228 (by assumption) ?rest1n1228
        case hi1n1228 => (simp only [List.getElem?_toArray, List.getElem?_cons_succ, List.getElem?_cons_zero]; rfl)
        case hQ1n1228 => exact fun _ _ _ h => h
        case hy1n1228 => exact Or.inl ⟨by rfl, by (intro w hSw; (try dsimp only at hSw); go_simp; (try with_reducible rfl))⟩
        try simp only [Act.put, List.setIfInBounds_toArray, List.set_cons_zero, List.set_cons_succ]
        refine' wpAnyH_take (i := 2) (oi := _) (v := _) ?hi2n1228 (by kernel_rfl) (by kernel_rfl) (by kernel_rfl) ?hQ2n1228 ?hy2n1228 (by assumption) ?rest2n1228
        case hi2n1228 => (simp only [List.getElem?_toArray, List.getElem?_cons_succ, List.getElem?_cons_zero]; rfl)
        case hQ2n1228 => exact fun _ _ _ h => h
        case hy2n1228 => exact Or.inl ⟨by rfl, by (intro w hSw; (try dsimp only at hSw); go_simp; (try with_reducible rfl))⟩
        try simp only [Act.put, List.setIfInBounds_toArray, List.set_cons_zero, List.set_cons_succ]
        refine' wpAnyH_take (i := 3) (oi := _) (v := _) ?hi3n1228 (by kernel_rfl) (by kernel_rfl) (by kernel_rfl) ?hQ3n1228 ?hy3n1228 (by assumption) ?rest3n1228
        case hi3n1228 => (simp only [List.getElem?_toArray, List.getElem?_cons_succ, List.getElem?_cons_zero]; rfl)
        case hQ3n1228 => exact fun _ _ _ h => h
        case hy3n1228 => exact Or.inl ⟨by rfl, by (intro w hSw; (try dsimp only at hSw); go_simp; (try with_reducible rfl))⟩
        try simp only [Act.put, List.setIfInBounds_toArray, List.set_cons_zero, List.set_cons_succ]
        refine' wpAnyH_take (i := 4) (oi := _) (v := _) ?hi4n1228 (by kernel_rfl) (by kernel_rfl) (by kernel_rfl) ?hQ4n1228 ?hy4n1228 (by assumption) ?rest4n1228
        case hi4n1228 => (simp only [List.getElem?_toArray, List.getElem?_cons_succ, List.getElem?_cons_zero]; rfl)
        case hQ4n1228 => exact fun _ _ _ h => h
        case hy4n1228 => exact Or.inl ⟨by rfl, by (intro w hSw; (try dsimp only at hSw); go_simp; (try with_reducible rfl))⟩
        try simp only [Act.put, List.setIfInBounds_toArray, List.set_cons_zero, List.set_cons_succ]
        refine' wpAnyH_take (i := 5) (oi := _) (v := _) ?hi5n1228 (by kernel_rfl) (by kernel_rfl) (by kernel_rfl) ?hQ5n1228 ?hy5n1228 (by assumption) ?rest5n1228
        case hi5n1228 => (simp only [List.getElem?_toArray, List.getElem?_cons_succ, List.getElem?_cons_zero]; rfl)
        case hQ5n1228 => exact fun _ _ _ h => h
        case hy5n1228 => exact Or.inl ⟨by rfl, by (intro w hSw; (try dsimp only at hSw); go_simp; (try with_reducible rfl))⟩
        try simp only [Act.put, List.setIfInBounds_toArray, List.set_cons_zero, List.set_cons_succ]
        refine' wpAnyH_take (i := 6) (oi := _) (v := _) ?hi6n1228 (by kernel_rfl) (by kernel_rfl) (by kernel_rfl) ?hQ6n1228 ?hy6n1228 (by assumption) ?rest6n1228
        case hi6n1228 => (simp only [List.getElem?_toArray, List.getElem?_cons_succ, List.getElem?_cons_zero]; rfl)
        case hQ6n1228 => exact fun _ _ _ h => h
        case hy6n1228 => exact Or.inl ⟨by rfl, by (intro w hSw; (try dsimp only at hSw); go_simp; (try with_reducible rfl))⟩
        try simp only [Act.put, List.setIfInBounds_toArray, List.set_cons_zero, List.set_cons_succ]
        refine' wpAnyH_take (i := 7) (oi := _) (v := _) ?hi7n1228 (by kernel_rfl) (by kernel_rfl) (by kernel_rfl) ?hQ7n1228 ?hy7n1228 (by assumption) ?rest7n1228
        case hi7n1228 => (simp only [List.getElem?_toArray, List.getElem?_cons_succ, List.getElem?_cons_zero]; rfl)
        case hQ7n1228 => exact fun _ _ _ h => h
        case hy7n1228 => exact Or.inl ⟨by rfl, by (intro w hSw; (try dsimp only at hSw); go_simp; (try with_reducible rfl))⟩
        try simp only [Act.put, List.setIfInBounds_toArray, List.set_cons_zero, List.set_cons_succ]
        refine' wpAnyH_take (i := 8) (oi := _) (v := _) ?hi8n1228 (by kernel_rfl) (by kernel_rfl) (by kernel_rfl) ?hQ8n1228 ?hy8n1228 (by assumption) ?rest8n1228
        case hi8n1228 => (simp only [List.getElem?_toArray, List.getElem?_cons_succ, List.getElem?_cons_zero]; rfl)
        case hQ8n1228 => exact fun _ _ _ h => h
        case hy8n1228 => exact Or.inl ⟨by rfl, by (intro w hSw; (try dsimp only at hSw); go_simp; (try with_reducible rfl))⟩
        try simp only [Act.put, List.setIfInBounds_toArray, List.set_cons_zero, List.set_cons_succ]
        refine' wpAnyH_take (i := 9) (oi := _) (v := _) ?hi9n1228 (by kernel_rfl) (by kernel_rfl) (by kernel_rfl) ?hQ9n1228 ?hy9n1228 (by assumption) ?rest9n1228
        case hi9n1228 => (simp only [List.getElem?_toArray, List.getElem?_cons_succ, List.getElem?_cons_zero]; rfl)
        case hQ9n1228 => exact fun _ _ _ h => h
        case hy9n1228 => exact Or.inl ⟨by rfl, by (intro w hSw; (try dsimp only at hSw); go_simp; (try with_reducible rfl))⟩
        try simp only [Act.put, List.setIfInBounds_toArray, List.set_cons_zero, List.set_cons_succ]
        refine' wpAnyH_take (i := 10) (oi := _) (v := _) ?hi10n1228 (by kernel_rfl) (by kernel_rfl) (by kernel_rfl) ?hQ10n1228 ?hy10n1228 (by assumption) ?rest10n1228
        case hi10n1228 => (simp only [List.getElem?_toArray, List.getElem?_cons_succ, List.getElem?_cons_zero]; rfl)
        case hQ10n1228 => exact fun _ _ _ h => h
        case hy10n1228 => exact Or.inl ⟨by rfl, by (intro w hSw; (try dsimp only at hSw); go_simp; (try with_reducible rfl))⟩
        try simp only [Act.put, List.setIfInBounds_toArray, List.set_cons_zero, List.set_cons_succ]
        refine' wpAnyH_take (i := 11) (oi := _) (v := _) ?hi11n1228 (by kernel_rfl) (by kernel_rfl) (by kernel_rfl) ?hQ11n1228 ?hy11n1228 (by assumption) ?rest11n1228
        case hi11n1228 => (simp only [List.getElem?_toArray, List.getElem?_cons_succ, List.getElem?_cons_zero]; rfl)
        case hQ11n1228 => exact fun _ _ _ h => h
        case hy11n1228 => exact Or.inl ⟨by rfl, by (intro w hSw; (try dsimp only at hSw); go_simp; (try with_reducible rfl))⟩
        try simp only [Act.put, List.setIfInBounds_toArray, List.set_cons_zero, List.set_cons_succ]
        refine' wpAnyH_take (i := 12) (oi := _) (v := _) ?hi12n1228 (by kernel_rfl) (by kernel_rfl) (by kernel_rfl) ?hQ12n1228 ?hy12n1228 (by assumption) ?rest12n1228
        case hi12n1228 => (simp only [List.getElem?_toArray, List.getElem?_cons_succ, List.getElem?_cons_zero]; rfl)
        case hQ12n1228 => exact fun _ _ _ h => h
        case hy12n1228 => exact Or.inl ⟨by rfl, by (intro w hSw; (try dsimp only at hSw); go_simp; (try with_reducible rfl))⟩
        try simp only [Act.put, List.setIfInBounds_toArray, List.set_cons_zero, List.set_cons_succ]
        refine' wpAnyH_take (i := 13) (oi := _) (v := _) ?hi13n1228 (by kernel_rfl) (by kernel_rfl) (by kernel_rfl) ?hQ13n1228 ?hy13n1228 (by assumption) ?rest13n1228
        case hi13n1228 => (simp only [List.getElem?_toArray, List.getElem?_cons_succ, List.getElem?_cons_zero]; rfl)
        case hQ13n1228 => exact fun _ _ _ h => h
        case hy13n1228 => exact Or.inl ⟨by rfl, by (intro w hSw; (try dsimp only at hSw); go_simp; (try with_reducible rfl))⟩
        try simp only [Act.put, List.setIfInBounds_toArray, List.set_cons_zero, List.set_cons_succ]
        refine' wpAnyH_take (i := 14) (oi := _) (v := _) ?hi14n1228 (by kernel_rfl) (by kernel_rfl) (by kernel_rfl) ?hQ14n1228 ?hy14n1228 (by assumption) ?rest14n1228
        case hi14n1228 => (simp only [List.getElem?_toArray, List.getElem?_cons_succ, List.getElem?_cons_zero]; rfl)
        case hQ14n1228 => exact fun _ _ _ h => h
        case hy14n1228 => exact Or.inl ⟨by rfl, by (intro w hSw; (try dsimp only at hSw); go_simp; (try with_reducible rfl))⟩
        try simp only [Act.put, List.setIfInBounds_toArray, List.set_cons_zero, List.set_cons_succ]
        refine' wpAnyH_take (i := 15) (oi := _) (v := _) ?hi15n1228 (by kernel_rfl) (by kernel_rfl) (by kernel_rfl) ?hQ15n1228 ?hy15n1228 (by assumption) ?rest15n1228
        case hi15n1228 => (simp only [List.getElem?_toArray, List.getElem?_cons_succ, List.getElem?_cons_zero]; rfl)
        case hQ15n1228 => exact fun _ _ _ h => h
        case hy15n1228 => exact Or.inl ⟨by rfl, by (intro w hSw; (try dsimp only at hSw); go_simp; (try with_reducible rfl))⟩
        try simp only [Act.put, List.setIfInBounds_toArray, List.set_cons_zero, List.set_cons_succ]
        obtain ⟨xd15, hxw⟩ : ∃ xd, xk27.drew = xd := ⟨_, rfl⟩
        rw [hxw] at hHeld ⊢
        have bd : Below xk27.heap.size xk27 xd15 := by rw [← hxw]; exact (Below.refl _ _).drew
        clear hxw q0
        replace k3 := k3.below bd k3.1
        replace k7 := k7.below bd k7.1
        replace k23 := k23.below bd k23.1
        replace k25 := k25.below bd k25.1
        replace o1 := own_below o1 bd (own_lt o1)
        replace o2 := own_below o2 bd (own_lt o2)
        replace o3 := own_below o3 bd (own_lt o3)
        replace o6 := own_below o6 bd (own_lt o6)
        replace o7 := own_below o7 bd (own_lt o7)
        replace o8 := own_below o8 bd (own_lt o8)
        replace o9 := own_below o9 bd (own_lt o9)
        have zxd15 := bd.size
        replace bb := bb.trans (bd.mono bb.size)
        clear bd
        refine wpAnyH_ready (rs := [16]) (by kernel_rfl) (by simp) ?_
        refine AllReadyH.cons (by (simp only [List.getElem?_toArray, List.getElem?_cons_succ, List.getElem?_cons_zero]; rfl)) (fun K hK => ?_) AllReadyH.nil
        rw [if_pos (by rfl)]
        go_simp
        refine (sameInts_same _ _ _ _ (Rd.of_own o6) (Rd.of_own o7)).mono ?_
        rintro e w16 ⟨rfl, b16⟩
        replace k3 := k3.below b16 k3.1
        replace k7 := k7.below b16 k7.1
        replace k23 := k23.below b16 k23.1
        replace k25 := k25.below b16 k25.1
        replace o1 := own_below o1 b16 (own_lt o1)
        replace o2 := own_below o2 b16 (own_lt o2)
        replace o3 := own_below o3 b16 (own_lt o3)
        replace o6 := own_below o6 b16 (own_lt o6)
        replace o7 := own_below o7 b16 (own_lt o7)
        replace o8 := own_below o8 b16 (own_lt o8)
        replace o9 := own_below o9 b16 (own_lt o9)
        have zw16 := b16.size
        replace bb := bb.trans (b16.mono bb.size)
        clear b16
        have q0 := And.intro k23.four (k25.four)
        dsimp only
        refine hK.out _ _ (by first | (dsimp only; exact q0) | exact q0) (fun hHeld => ?_)
        clear q0 hK K
        try simp only [Act.put, List.setIfInBounds_toArray, List.set_cons_zero, List.set_cons_succ]
        refine' wpAnyH_take (i := 17) (oi := _) (v := _) ?hi17n1272 (by kernel_rfl) (by kernel_rfl) (by kernel_rfl) ?hQ17n1272 ?hy17n1272 (by assumption) ?rest17n1272
        case hi17n1272 => (simp only [List.getElem?_toArray, List.getElem?_cons_succ, List.getElem?_cons_zero]; rfl)
        case hQ17n1272 => exact fun _ _ _ h => h
        case hy17n1272 => exact Or.inl ⟨by rfl, by (intro w hSw; (try dsimp only at hSw); go_simp; (try with_reducible rfl))⟩
        try simp only [Act.put, List.setIfInBounds_toArray, List.set_cons_zero, List.set_cons_succ]
        refine' wpAnyH_take (i := 18) (oi := _) (v := _) ?hi18n1272 (by kernel_rfl) (by kernel_rfl) (by kernel_rfl) ?hQ18n1272 ?hy18n1272 (by assumption) ?rest18n1272
        case hi18n1272 => (simp only [List.getElem?_toArray, List.getElem?_cons_succ, List.getElem?_cons_zero]; rfl)
        case hQ18n1272 => exact fun _ _ _ h => h
        case hy18n1272 => exact Or.inl ⟨by rfl, by (intro w hSw; (try dsimp only at hSw); go_simp; (try with_reducible rfl))⟩
        try simp only [Act.put, List.setIfInBounds_toArray, List.set_cons_zero, List.set_cons_succ]
        refine' wpAnyH_take (i := 19) (oi := _) (v := _) ?hi19n1272 (by kernel_rfl) (by kernel_rfl) (by kernel_rfl) ?hQ19n1272 ?hy19n1272 (by assumption) ?rest19n1272
        case hi19n1272 => (simp only [List.getElem?_toArray, List.getElem?_cons_succ, List.getElem?_cons_zero]; rfl)
        case hQ19n1272 => exact fun _ _ _ h => h
        case hy19n1272 => exact Or.inl ⟨by rfl, by (intro w hSw; (try dsimp only at hSw); go_simp; (try with_reducible rfl))⟩
        try simp only [Act.put, List.setIfInBounds_toArray, List.set_cons_zero, List.set_cons_succ]
        refine' wpAnyH_take (i := 20) (oi := _) (v := _) ?hi20n1272 (by kernel_rfl) (by kernel_rfl) (by kernel_rfl) ?hQ20n1272 ?hy20n1272 (by assumption) ?rest20n1272
        case hi20n1272 => (simp only [List.getElem?_toArray, List.getElem?_cons_succ, List.getElem?_cons_zero]; rfl)
        case hQ20n1272 => exact fun _ _ _ h => h
        case hy20n1272 => exact Or.inl ⟨by rfl, by (intro w hSw; (try dsimp only at hSw); go_simp; (try with_reducible rfl))⟩
        try simp only [Act.put, List.setIfInBounds_toArray, List.set_cons_zero, List.set_cons_succ]
        refine' wpAnyH_take (i := 22) (oi := _) (v := _) ?hi22n1272 (by kernel_rfl) (by kernel_rfl) (by kernel_rfl) ?hQ22n1272 ?hy22n1272 (by assumption) ?rest22n1272
        case hi22n1272 => (simp only [List.getElem?_toArray, List.getElem?_cons_succ, List.getElem?_cons_zero]; rfl)
        case hQ22n1272 => exact fun _ _ _ h => h
        case hy22n1272 => exact Or.inl ⟨by rfl, by (intro w hSw; (try dsimp only at hSw); go_simp; (try with_reducible rfl))⟩
        try simp only [Act.put, List.setIfInBounds_toArray, List.set_cons_zero, List.set_cons_succ]
        refine wpAnyH_ready (rs := [21]) (by kernel_rfl) (by simp) ?_
        refine AllReadyH.cons (by (simp only [List.getElem?_toArray, List.getElem?_cons_succ, List.getElem?_cons_zero]; rfl)) (fun K hK => ?_) AllReadyH.nil
        rw [if_pos (by rfl)]
        go_simp
        refine (M4.out _ _ _ (Rd.of_own o8)).mono ?_
        rintro e w17 ⟨rfl, b17⟩
        replace k3 := k3.below b17 k3.1
        replace k7 := k7.below b17 k7.1
        replace k23 := k23.below b17 k23.1
        replace k25 := k25.below b17 k25.1
        replace o1 := own_below o1 b17 (own_lt o1)
        replace o2 := own_below o2 b17 (own_lt o2)
        replace o3 := own_below o3 b17 (own_lt o3)
        replace o6 := own_below o6 b17 (own_lt o6)
        replace o7 := own_below o7 b17 (own_lt o7)
        replace o8 := own_below o8 b17 (own_lt o8)
        replace o9 := own_below o9 b17 (own_lt o9)
        have zw17 := b17.size
        replace bb := bb.trans (b17.mono bb.size)
        clear b17
        have q0 := And.intro k23.four (k25.four)
        dsimp only
        refine hK.out _ _ (by first | (dsimp only; exact q0) | exact q0) (fun hHeld => ?_)
        clear q0 hK K
        try simp only [Act.put, List.setIfInBounds_toArray, List.set_cons_zero, List.set_cons_succ]
        refine wpAnyH_ready (rs := [23]) (by kernel_rfl) (by simp) ?_
        refine AllReadyH.cons (by (simp only [List.getElem?_toArray, List.getElem?_cons_succ, List.getElem?_cons_zero]; rfl)) (fun K hK => ?_) AllReadyH.nil
        rw [if_pos (by rfl)]
        go_simp
        refine (M5.out _ _ _ (Rd.of_own o8)).mono ?_
        rintro e w18 ⟨rfl, b18⟩
        replace k3 := k3.below b18 k3.1
        replace k7 := k7.below b18 k7.1
        replace k23 := k23.below b18 k23.1
        replace k25 := k25.below b18 k25.1
        replace o1 := own_below o1 b18 (own_lt o1)
        replace o2 := own_below o2 b18 (own_lt o2)
        replace o3 := own_below o3 b18 (own_lt o3)
        replace o6 := own_below o6 b18 (own_lt o6)
        replace o7 := own_below o7 b18 (own_lt o7)
        replace o8 := own_below o8 b18 (own_lt o8)
        replace o9 := own_below o9 b18 (own_lt o9)
        have zw18 := b18.size
        replace bb := bb.trans (b18.mono bb.size)
        clear b18
        have q0 := And.intro k23.four (k25.four)
        dsimp only
        refine hK.out _ _ (by first | (dsimp only; exact q0) | exact q0) (fun hHeld => ?_)
        clear q0 hK K
        try simp only [Act.put, List.setIfInBounds_toArray, List.set_cons_zero, List.set_cons_succ]
        refine' wpAnyH_take (i := 24) (oi := _) (v := _) ?hi24n1323 (by kernel_rfl) (by kernel_rfl) (by kernel_rfl) ?hQ24n1323 ?hy24n1323 (by assumption) ?rest24n1323
        case hi24n1323 => (simp only [List.getElem?_toArray, List.getElem?_cons_succ, List.getElem?_cons_zero]; rfl)
        case hQ24n1323 => exact fun _ _ _ h => h
        case hy24n1323 => exact Or.inl ⟨by rfl, by (intro w hSw; (try dsimp only at hSw); go_simp; (try with_reducible rfl))⟩
        try simp only [Act.put, List.setIfInBounds_toArray, List.set_cons_zero, List.set_cons_succ]
        refine' wpAnyH_take (i := 25) (oi := _) (v := _) ?hi25n1323 (by kernel_rfl) (by kernel_rfl) (by kernel_rfl) ?hQ25n1323 ?hy25n1323 (by assumption) ?rest25n1323
        case hi25n1323 => (simp only [List.getElem?_toArray, List.getElem?_cons_succ, List.getElem?_cons_zero]; rfl)
        case hQ25n1323 => exact fun _ _ _ h => h
        case hy25n1323 => exact Or.inl ⟨by rfl, by (intro w hSw; (try dsimp only at hSw); go_simp; (try with_reducible rfl))⟩
        try simp only [Act.put, List.setIfInBounds_toArray, List.set_cons_zero, List.set_cons_succ]
        refine' wpAnyH_take (i := 26) (oi := _) (v := _) ?hi26n1323 (by kernel_rfl) (by kernel_rfl) (by kernel_rfl) ?hQ26n1323 ?hy26n1323 (by assumption) ?rest26n1323
        case hi26n1323 => (simp only [List.getElem?_toArray, List.getElem?_cons_succ, List.getElem?_cons_zero]; rfl)
        case hQ26n1323 => exact fun _ _ _ h => h
        case hy26n1323 => exact Or.inl ⟨by rfl, by (intro w hSw; (try dsimp only at hSw); go_simp; (try with_reducible rfl))⟩
        try simp only [Act.put, List.setIfInBounds_toArray, List.set_cons_zero, List.set_cons_succ]
        refine' wpAnyH_take (i := 27) (oi := _) (v := _) ?hi27n1323 (by kernel_rfl) (by kernel_rfl) (by kernel_rfl) ?hQ27n1323 ?hy27n1323 (by assumption) ?rest27n1323
        case hi27n1323 => (simp only [List.getElem?_toArray, List.getElem?_cons_succ, List.getElem?_cons_zero]; rfl)
        case hQ27n1323 => exact fun _ _ _ h => h
        case hy27n1323 => exact Or.inl ⟨by rfl, by (intro w hSw; (try dsimp only at hSw); go_simp; (try with_reducible rfl))⟩
        try simp only [Act.put, List.setIfInBounds_toArray, List.set_cons_zero, List.set_cons_succ]
        refine' wpAnyH_take (i := 28) (oi := _) (v := _) ?hi28n1323 (by kernel_rfl) (by kernel_rfl) (by kernel_rfl) ?hQ28n1323 ?hy28n1323 (by assumption) ?rest28n1323
        case hi28n1323 => (simp only [List.getElem?_toArray, List.getElem?_cons_succ, List.getElem?_cons_zero]; rfl)
        case hQ28n1323 => exact fun _ _ _ h => h
        case hy28n1323 => exact Or.inl ⟨by rfl, by (intro w hSw; (try dsimp only at hSw); go_simp; (try with_reducible rfl))⟩
        try simp only [Act.put, List.setIfInBounds_toArray, List.set_cons_zero, List.set_cons_succ]
        refine' wpAnyH_take (i := 29) (oi := _) (v := _) ?hi29n1323 (by kernel_rfl) (by kernel_rfl) (by kernel_rfl) ?hQ29n1323 ?hy29n1323 (by assumption) ?rest29n1323
        case hi29n1323 => (simp only [List.getElem?_toArray, List.getElem?_cons_succ, List.getElem?_cons_zero]; rfl)
        case hQ29n1323 => exact fun _ _ _ h => h
        case hy29n1323 => exact Or.inl ⟨by rfl, by (intro w hSw; (try dsimp only at hSw); go_simp; (try with_reducible rfl))⟩
        try simp only [Act.put, List.setIfInBounds_toArray, List.set_cons_zero, List.set_cons_succ]
        refine' wpAnyH_take (i := 30) (oi := _) (v := _) ?hi30n1323 (by kernel_rfl) (by kernel_rfl) (by kernel_rfl) ?hQ30n1323 ?hy30n1323 (by assumption) ?rest30n1323
        case hi30n1323 => (simp only [List.getElem?_toArray, List.getElem?_cons_succ, List.getElem?_cons_zero]; rfl)
        case hQ30n1323 => exact fun _ _ _ h => h
        case hy30n1323 => exact Or.inl ⟨by rfl, by (intro w hSw; (try dsimp only at hSw); go_simp; (try with_reducible rfl))⟩
        try simp only [Act.put, List.setIfInBounds_toArray, List.set_cons_zero, List.set_cons_succ]
        refine' wpAnyH_take (i := 31) (oi := _) (v := _) ?hi31n1323 (by kernel_rfl) (by kernel_rfl) (by kernel_rfl) ?hQ31n1323 ?hy31n1323 (by assumption) ?rest31n1323
        case hi31n1323 => (simp only [List.getElem?_toArray, List.getElem?_cons_succ, List.getElem?_cons_zero]; rfl)
        case hQ31n1323 => exact fun _ _ _ h => h
        case hy31n1323 => exact Or.inl ⟨by rfl, by (intro w hSw; (try dsimp only at hSw); go_simp; (try with_reducible rfl))⟩
        try simp only [Act.put, List.setIfInBounds_toArray, List.set_cons_zero, List.set_cons_succ]
        refine' wpAnyH_take (i := 32) (oi := _) (v := _) ?hi32n1323 (by kernel_rfl) (by kernel_rfl) (by kernel_rfl) ?hQ32n1323 ?hy32n1323 (by assumption) ?rest32n1323
        case hi32n1323 => (simp only [List.getElem?_toArray, List.getElem?_cons_succ, List.getElem?_cons_zero]; rfl)
        case hQ32n1323 => exact fun _ _ _ h => h
        case hy32n1323 => exact Or.inl ⟨by rfl, by (intro w hSw; (try dsimp only at hSw); go_simp; (try with_reducible rfl))⟩
        try simp only [Act.put, List.setIfInBounds_toArray, List.set_cons_zero, List.set_cons_succ]
        refine' wpAnyH_take (i := 33) (oi := _) (v := _) ?hi33n1323 (by kernel_rfl) (by kernel_rfl) (by kernel_rfl) ?hQ33n1323 ?hy33n1323 (by assumption) ?rest33n1323
        case hi33n1323 => (simp only [List.getElem?_toArray, List.getElem?_cons_succ, List.getElem?_cons_zero]; rfl)
        case hQ33n1323 => exact fun _ _ _ h => h
        case hy33n1323 => exact Or.inl ⟨by rfl, by (intro w hSw; (try dsimp only at hSw); go_simp; (try with_reducible rfl))⟩
        try simp only [Act.put, List.setIfInBounds_toArray, List.set_cons_zero, List.set_cons_succ]
        refine' wpAnyH_take (i := 34) (oi := _) (v := undef) ?hi34n1324 (by kernel_rfl) (by kernel_rfl) (by kernel_rfl) ?hQ34n1324 ?hy34n1324 (by assumption) ?rest34n1324
        case hi34n1324 => (simp only [List.getElem?_toArray, List.getElem?_cons_succ, List.getElem?_cons_zero]; rfl)
        case hQ34n1324 => exact fun _ _ _ h => h
        case hy34n1324 => exact Or.inr ⟨by rfl, rfl⟩
        try simp only [Act.put, List.setIfInBounds_toArray, List.set_cons_zero, List.set_cons_succ]
        refine' wpAnyH_take (i := 35) (oi := _) (v := undef) ?hi35n1324 (by kernel_rfl) (by kernel_rfl) (by kernel_rfl) ?hQ35n1324 ?hy35n1324 (by assumption) ?rest35n1324
        case hi35n1324 => (simp only [List.getElem?_toArray, List.getElem?_cons_succ, List.getElem?_cons_zero]; rfl)
        case hQ35n1324 => exact fun _ _ _ h => h
        case hy35n1324 => exact Or.inr ⟨by rfl, rfl⟩
        try simp only [Act.put, List.setIfInBounds_toArray, List.set_cons_zero, List.set_cons_succ]
        refine' wpAnyH_take (i := 36) (oi := _) (v := undef) ?hi36n1324 (by kernel_rfl) (by kernel_rfl) (by kernel_rfl) ?hQ36n1324 ?hy36n1324 (by assumption) ?rest36n1324
        case hi36n1324 => (simp only [List.getElem?_toArray, List.getElem?_cons_succ, List.getElem?_cons_zero]; rfl)
        case hQ36n1324 => exact fun _ _ _ h => h
        case hy36n1324 => exact Or.inr ⟨by rfl, rfl⟩
        try simp only [Act.put, List.setIfInBounds_toArray, List.set_cons_zero, List.set_cons_succ]
        refine' wpAnyH_take (i := 37) (oi := _) (v := _) ?hi37n1325 (by kernel_rfl) (by kernel_rfl) (by kernel_rfl) ?hQ37n1325 ?hy37n1325 (by assumption) ?rest37n1325
        case hi37n1325 => (simp only [List.getElem?_toArray, List.getElem?_cons_succ, List.getElem?_cons_zero]; rfl)
        case hQ37n1325 => exact fun _ _ _ h => h
        case hy37n1325 => exact Or.inl ⟨by rfl, by (intro w hSw; (try dsimp only at hSw); go_simp; (try with_reducible rfl))⟩
        try simp only [Act.put, List.setIfInBounds_toArray, List.set_cons_zero, List.set_cons_succ]
        refine' wpAnyH_take (i := 38) (oi := _) (v := _) ?hi38n1325 (by kernel_rfl) (by kernel_rfl) (by kernel_rfl) ?hQ38n1325 ?hy38n1325 (by assumption) ?rest38n1325
        case hi38n1325 => (simp only [List.getElem?_toArray, List.getElem?_cons_succ, List.getElem?_cons_zero]; rfl)
        case hQ38n1325 => exact fun _ _ _ h => h
        case hy38n1325 => exact Or.inl ⟨by rfl, by (intro w hSw; (try dsimp only at hSw); go_simp; (try with_reducible rfl))⟩
        try simp only [Act.put, List.setIfInBounds_toArray, List.set_cons_zero, List.set_cons_succ]
        refine wpAnyH_done (by kernel_rfl) ?_ _
        clear hHeld
        clear lo6 mo6
        clear lo7 mo7
        clear lo8 mo8
        clear lo9 mo9
        clear o6 o7 o8 o9 k23 k25
        clear hbo hbf hbt hrr
        obtain ⟨h', b', n', ps, rfl, rfl, rfl, hR, hP⟩ := HYES.out (by first | rfl | exact trivial)
        have hblk := hP.block hR
        have hP1 := hP.ws_
        have hP2 := hP.next
        have hP3 := hP.at_
        have hright := hP.right
        have hfit := hP.fit
        dsimp only at hP1 hP2 hP3 hblk hright
        obtain ⟨t1, t2, t3, t4⟩ := hblk
        have q1 := B3.out
        rw [t1] at q1
        have BT := Lib.hid (fun B v W hr => (q1 B v W hr).mono (fun e w' hh => And.intro (told_is t2 t3 t4 hh.1) hh.2))
        clear q1
        have hrf : heapOk ws h' b' n' = true := hR.okB
        have hr1 : roomOf ws h' b' n' = (b' : Int) + h' - n' := by unfold roomOf; rw [if_pos hrf]
        have hr2 : roomOf qs h' b' qn = (b' : Int) + h' - qn := by unfold roomOf; rw [if_pos hright]
        have q1 := M1.out
        rw [hr1] at q1
        have M1' := Lib.hid q1
        have q2 := M3.out
        rw [hr2] at q2
        have M3' := Lib.hid q2
        have q3 := O3.out
        rw [hright] at q3
        have O3' := Lib.hid q3
        have q4 := fun (j : Nat) (hj : j < n') => Putd.low hP hR hj
        dsimp only at q4
        have LOW := Lib.hid q4
        clear q1 q2 q3 q4
        have hnl := hR.n_le
        have hff : (f != f) = false := by cases f <;> rfl
        have htt : (t != t) = false := by simp
        have hbn := hR.frame.n0
        have hkl := HKL.out
        have hfh := hR.frame.h1
        have hfb := hR.frame.base
        have hmm : ((b' : Int) + h' - qn != (b' : Int) + h' - n' - 1 - ks.length) = false := by rw [hP2]; simp; omega
        clear HYES HNO hP hP1 hP2 hP3 t1 t2 t3 t4 hright hrf hr1 hr2 hR B3 M1 M3 O3
        have ck7 := k7.2.1
        have yk7 := k7.1
        go_wp2_with fail
        clear ck7 yk7
        refine (BT.out _ _ _ (Rd.of_own o3)).mono ?_
        rintro e w19 ⟨⟨u11, rfl, o11⟩, b19⟩
        have lo11 : ∀ k, u11.ownBlock = some k → w18.heap.size ≤ k := fun k hk => (o11.lt k hk).1
        have mo11 := own_lt o11
        replace k3 := k3.below b19 k3.1
        replace k7 := k7.below b19 k7.1
        replace o1 := own_below o1 b19 (own_lt o1)
        replace o2 := own_below o2 b19 (own_lt o2)
        replace o3 := own_below o3 b19 (own_lt o3)
        have zw19 := b19.size
        replace bb := bb.trans (b19.mono bb.size)
        clear b19
        obtain ⟨ao11, do11, rfl⟩ := own_form o11
        go_upto_region 20 with fail
        have hw1 : IntKind.i64.wrap ((b' : Int) + h' - n' - 1) = (b' : Int) + h' - n' - 1 := IntWalk.i64_in _ (by omega)
        have hw2 : IntKind.i64.wrap ((b' : Int) + h' - n' - 1 - ks.length) = (b' : Int) + h' - n' - 1 - ks.length := IntWalk.i64_in _ (by omega)
        have q0 := And.intro k3.four (k7.four)
        refine wp_region_held_drew (S := (fun w' => (w'.cell? ⟨w1.heap.size, 0, none⟩ = some (.slice ao1 ws.length do1) ∧ w'.cell? ⟨w1.heap.size, 1, none⟩ = some (.int .i64 (h' : Int)) ∧ w'.cell? ⟨w1.heap.size, 2, none⟩ = some (.int .i64 (b' : Int)) ∧ w'.cell? ⟨w1.heap.size, 3, none⟩ = some (.int .i64 (n' : Int))) ∧ (w'.cell? ⟨w2.heap.size, 0, none⟩ = some (.slice ao3 qs.length do3) ∧ w'.cell? ⟨w2.heap.size, 1, none⟩ = some (.int .i64 (h' : Int)) ∧ w'.cell? ⟨w2.heap.size, 2, none⟩ = some (.int .i64 (b' : Int)) ∧ w'.cell? ⟨w2.heap.size, 3, none⟩ = some (.int .i64 qn)))) (by kernel_rfl) (by first | (dsimp only; exact q0) | (exact q0)) (fun hHeld => ?_)
        refine' wpAnyH_take (i := 0) (oi := _) (v := _) ?hi0n1394 (by kernel_rfl) (by kernel_rfl) (by kernel_rfl) ?hQ0n1394 ?hy0n1394 (by assumption) ?rest0n1394
        case hi0n1394 => (simp only [List.getElem?_toArray, List.getElem?_cons_zero]; rfl)
        case hQ0n1394 => exact fun _ _ _ h => h
        case hy0n1394 => exact Or.inl ⟨by rfl, by (intro w hSw; (try dsimp only at hSw); go_simp; (try with_reducible rfl))⟩
        try simp only [Act.put, List.setIfInBounds_toArray, List.set_cons_zero, List.set_cons_succ]
        refine' wpAnyH_take (i := 1) (oi := _) (v := _) ?hi1n1394 (by kernel_rfl) (by kernel_rfl) (by kernel_rfl) ?hQ1n1394 ?hy1n1394 (by assumption) ?rest1n1394
        case hi1n1394 => (simp only [List.getElem?_toArray, List.getElem?_cons_succ, List.getElem?_cons_zero]; rfl)
        case hQ1n1394 => exact fun _ _ _ h => h
        case hy1n1394 => exact Or.inl ⟨by rfl, by (intro w hSw; (try dsimp only at hSw); go_simp; (try with_reducible rfl))⟩
        try simp only [Act.put, List.setIfInBounds_toArray, List.set_cons_zero, List.set_cons_succ]
        refine' wpAnyH_take (i := 2) (oi := _) (v := _) ?hi2n1394 (by kernel_rfl) (by kernel_rfl) (by kernel_rfl) ?hQ2n1394 ?hy2n1394 (by assumption) ?rest2n1394
        case hi2n1394 => (simp only [List.getElem?_toArray, List.getElem?_cons_succ, List.getElem?_cons_zero]; rfl)
        case hQ2n1394 => exact fun _ _ _ h => h
        case hy2n1394 => exact Or.inl ⟨by rfl, by (intro w hSw; (try dsimp only at hSw); go_simp; (try with_reducible rfl))⟩
        try simp only [Act.put, List.setIfInBounds_toArray, List.set_cons_zero, List.set_cons_succ]
        refine' wpAnyH_take (i := 3) (oi := _) (v := _) ?hi3n1394 (by kernel_rfl) (by kernel_rfl) (by kernel_rfl) ?hQ3n1394 ?hy3n1394 (by assumption) ?rest3n1394
        case hi3n1394 => (simp only [List.getElem?_toArray, List.getElem?_cons_succ, List.getElem?_cons_zero]; rfl)
        case hQ3n1394 => exact fun _ _ _ h => h
        case hy3n1394 => exact Or.inl ⟨by rfl, by (intro w hSw; (try dsimp only at hSw); go_simp; (try with_reducible rfl))⟩
        try simp only [Act.put, List.setIfInBounds_toArray, List.set_cons_zero, List.set_cons_succ]
        refine' wpAnyH_take (i := 4) (oi := _) (v := _) ?hi4n1394 (by kernel_rfl) (by kernel_rfl) (by kernel_rfl) ?hQ4n1394 ?hy4n1394 (by assumption) ?rest4n1394
        case hi4n1394 => (simp only [List.getElem?_toArray, List.getElem?_cons_succ, List.getElem?_cons_zero]; rfl)
        case hQ4n1394 => exact fun _ _ _ h => h
        case hy4n1394 => exact Or.inl ⟨by rfl, by (intro w hSw; (try dsimp only at hSw); go_simp; (try with_reducible rfl))⟩
        try simp only [Act.put, List.setIfInBounds_toArray, List.set_cons_zero, List.set_cons_succ]
        refine' wpAnyH_take (i := 5) (oi := _) (v := _) ?hi5n1394 (by kernel_rfl) (by kernel_rfl) (by kernel_rfl) ?hQ5n1394 ?hy5n1394 (by assumption) ?rest5n1394
        case hi5n1394 => (simp only [List.getElem?_toArray, List.getElem?_cons_succ, List.getElem?_cons_zero]; rfl)
        case hQ5n1394 => exact fun _ _ _ h => h
        case hy5n1394 => exact Or.inl ⟨by rfl, by (intro w hSw; (try dsimp only at hSw); go_simp; (try with_reducible rfl))⟩
        try simp only [Act.put, List.setIfInBounds_toArray, List.set_cons_zero, List.set_cons_succ]
        refine' wpAnyH_take (i := 6) (oi := _) (v := _) ?hi6n1394 (by kernel_rfl) (by kernel_rfl) (by kernel_rfl) ?hQ6n1394 ?hy6n1394 (by assumption) ?rest6n1394
        case hi6n1394 => (simp only [List.getElem?_toArray, List.getElem?_cons_succ, List.getElem?_cons_zero]; rfl)
        case hQ6n1394 => exact fun _ _ _ h => h
        case hy6n1394 => exact Or.inl ⟨by rfl, by (intro w hSw; (try dsimp only at hSw); go_simp; (try with_reducible rfl))⟩
        try simp only [Act.put, List.setIfInBounds_toArray, List.set_cons_zero, List.set_cons_succ]
        refine' wpAnyH_take (i := 7) (oi := _) (v := _) ?hi7n1394 (by kernel_rfl) (by kernel_rfl) (by kernel_rfl) ?hQ7n1394 ?hy7n1394 (by assumption) ?rest7n1394
        case hi7n1394 => (simp only [List.getElem?_toArray, List.getElem?_cons_succ, List.getElem?_cons_zero]; rfl)
        case hQ7n1394 => exact fun _ _ _ h => h
        case hy7n1394 => exact Or.inl ⟨by rfl, by (intro w hSw; (try dsimp only at hSw); go_simp; (try with_reducible rfl))⟩
        try simp only [Act.put, List.setIfInBounds_toArray, List.set_cons_zero, List.set_cons_succ]
        refine' wpAnyH_take (i := 8) (oi := _) (v := _) ?hi8n1394 (by kernel_rfl) (by kernel_rfl) (by kernel_rfl) ?hQ8n1394 ?hy8n1394 (by assumption) ?rest8n1394
        case hi8n1394 => (simp only [List.getElem?_toArray, List.getElem?_cons_succ, List.getElem?_cons_zero]; rfl)
        case hQ8n1394 => exact fun _ _ _ h => h
        case hy8n1394 => exact Or.inl ⟨by rfl, by (intro w hSw; (try dsimp only at hSw); go_simp; (try with_reducible rfl))⟩
        try simp only [Act.put, List.setIfInBounds_toArray, List.set_cons_zero, List.set_cons_succ]
        refine' wpAnyH_take (i := 9) (oi := _) (v := _) ?hi9n1394 (by kernel_rfl) (by kernel_rfl) (by kernel_rfl) ?hQ9n1394 ?hy9n1394 (by assumption) ?rest9n1394
        case hi9n1394 => (simp only [List.getElem?_toArray, List.getElem?_cons_succ, List.getElem?_cons_zero]; rfl)
        case hQ9n1394 => exact fun _ _ _ h => h
        case hy9n1394 => exact Or.inl ⟨by rfl, by (intro w hSw; (try dsimp only at hSw); go_simp; (try with_reducible rfl))⟩
        try simp only [Act.put, List.setIfInBounds_toArray, List.set_cons_zero, List.set_cons_succ]
        refine' wpAnyH_take (i := 10) (oi := _) (v := _) ?hi10n1394 (by kernel_rfl) (by kernel_rfl) (by kernel_rfl) ?hQ10n1394 ?hy10n1394 (by assumption) ?rest10n1394
        case hi10n1394 => (simp only [List.getElem?_toArray, List.getElem?_cons_succ, List.getElem?_cons_zero]; rfl)
        case hQ10n1394 => exact fun _ _ _ h => h
        case hy10n1394 => exact Or.inl ⟨by rfl, by (intro w hSw; (try dsimp only at hSw); go_simp; (try with_reducible rfl))⟩
        try simp only [Act.put, List.setIfInBounds_toArray, List.set_cons_zero, List.set_cons_succ]
        refine' wpAnyH_take (i := 11) (oi := _) (v := _) ?hi11n1394 (by kernel_rfl) (by kernel_rfl) (by kernel_rfl) ?hQ11n1394 ?hy11n1394 (by assumption) ?rest11n1394
        case hi11n1394 => (simp only [List.getElem?_toArray, List.getElem?_cons_succ, List.getElem?_cons_zero]; rfl)
        case hQ11n1394 => exact fun _ _ _ h => h
        case hy11n1394 => exact Or.inl ⟨by rfl, by (intro w hSw; (try dsimp only at hSw); go_simp; (try with_reducible rfl))⟩
        try simp only [Act.put, List.setIfInBounds_toArray, List.set_cons_zero, List.set_cons_succ]
        refine' wpAnyH_take (i := 12) (oi := _) (v := _) ?hi12n1394 (by kernel_rfl) (by kernel_rfl) (by kernel_rfl) ?hQ12n1394 ?hy12n1394 (by assumption) ?rest12n1394
        case hi12n1394 => (simp only [List.getElem?_toArray, List.getElem?_cons_succ, List.getElem?_cons_zero]; rfl)
        case hQ12n1394 => exact fun _ _ _ h => h
        case hy12n1394 => exact Or.inl ⟨by rfl, by (intro w hSw; (try dsimp only at hSw); go_simp; (try with_reducible rfl))⟩
        try simp only [Act.put, List.setIfInBounds_toArray, List.set_cons_zero, List.set_cons_succ]
        refine' wpAnyH_take (i := 13) (oi := _) (v := _) ?hi13n1394 (by kernel_rfl) (by kernel_rfl) (by kernel_rfl) ?hQ13n1394 ?hy13n1394 (by assumption) ?rest13n1394
        case hi13n1394 => (simp only [List.getElem?_toArray, List.getElem?_cons_succ, List.getElem?_cons_zero]; rfl)
        case hQ13n1394 => exact fun _ _ _ h => h
        case hy13n1394 => exact Or.inl ⟨by rfl, by (intro w hSw; (try dsimp only at hSw); go_simp; (try with_reducible rfl))⟩
        try simp only [Act.put, List.setIfInBounds_toArray, List.set_cons_zero, List.set_cons_succ]
        refine' wpAnyH_take (i := 14) (oi := _) (v := _) ?hi14n1394 (by kernel_rfl) (by kernel_rfl) (by kernel_rfl) ?hQ14n1394 ?hy14n1394 (by assumption) ?rest14n1394
        case hi14n1394 => (simp only [List.getElem?_toArray, List.getElem?_cons_succ, List.getElem?_cons_zero]; rfl)
        case hQ14n1394 => exact fun _ _ _ h => h
        case hy14n1394 => exact Or.inl ⟨by rfl, by (intro w hSw; (try dsimp only at hSw); go_simp; (try with_reducible rfl))⟩
        try simp only [Act.put, List.setIfInBounds_toArray, List.set_cons_zero, List.set_cons_succ]
        obtain ⟨xd20, hxw⟩ : ∃ xd, w19.drew = xd := ⟨_, rfl⟩
        rw [hxw] at hHeld ⊢
        have bd : Below w19.heap.size w19 xd20 := by rw [← hxw]; exact (Below.refl _ _).drew
        clear hxw q0
        replace k3 := k3.below bd k3.1
        replace k7 := k7.below bd k7.1
        replace o1 := own_below o1 bd (own_lt o1)
        replace o2 := own_below o2 bd (own_lt o2)
        replace o3 := own_below o3 bd (own_lt o3)
        replace o11 := own_below o11 bd (own_lt o11)
        have zxd20 := bd.size
        replace bb := bb.trans (bd.mono bb.size)
        clear bd
        refine wpAnyH_ready (rs := [15]) (by kernel_rfl) (by simp) ?_
        refine AllReadyH.cons (by (simp only [List.getElem?_toArray, List.getElem?_cons_succ, List.getElem?_cons_zero]; rfl)) (fun K hK => ?_) AllReadyH.nil
        rw [if_pos (by rfl)]
        go_simp
        refine (sameInts_same _ _ _ _ (Rd.of_own o11) (Rd.of_own o2)).mono ?_
        rintro e w21 ⟨rfl, b21⟩
        replace k3 := k3.below b21 k3.1
        replace k7 := k7.below b21 k7.1
        replace o1 := own_below o1 b21 (own_lt o1)
        replace o2 := own_below o2 b21 (own_lt o2)
        replace o3 := own_below o3 b21 (own_lt o3)
        replace o11 := own_below o11 b21 (own_lt o11)
        have zw21 := b21.size
        replace bb := bb.trans (b21.mono bb.size)
        clear b21
        have q0 := And.intro k3.four (k7.four)
        dsimp only
        refine hK.out _ _ (by first | (dsimp only; exact q0) | exact q0) (fun hHeld => ?_)
        clear q0 hK K
        try simp only [Act.put, List.setIfInBounds_toArray, List.set_cons_zero, List.set_cons_succ]
        refine' wpAnyH_take (i := 16) (oi := _) (v := _) ?hi16n1428 (by kernel_rfl) (by kernel_rfl) (by kernel_rfl) ?hQ16n1428 ?hy16n1428 (by assumption) ?rest16n1428
        case hi16n1428 => (simp only [List.getElem?_toArray, List.getElem?_cons_succ, List.getElem?_cons_zero]; rfl)
        case hQ16n1428 => exact fun _ _ _ h => h
        case hy16n1428 => exact Or.inl ⟨by rfl, by (intro w hSw; (try dsimp only at hSw); go_simp; (try with_reducible rfl))⟩
        try simp only [Act.put, List.setIfInBounds_toArray, List.set_cons_zero, List.set_cons_succ]
        refine' wpAnyH_take (i := 17) (oi := _) (v := _) ?hi17n1428 (by kernel_rfl) (by kernel_rfl) (by kernel_rfl) ?hQ17n1428 ?hy17n1428 (by assumption) ?rest17n1428
        case hi17n1428 => (simp only [List.getElem?_toArray, List.getElem?_cons_succ, List.getElem?_cons_zero]; rfl)
        case hQ17n1428 => exact fun _ _ _ h => h
        case hy17n1428 => exact Or.inl ⟨by rfl, by (intro w hSw; (try dsimp only at hSw); go_simp; (try with_reducible rfl))⟩
        try simp only [Act.put, List.setIfInBounds_toArray, List.set_cons_zero, List.set_cons_succ]
        refine' wpAnyH_take (i := 18) (oi := _) (v := _) ?hi18n1428 (by kernel_rfl) (by kernel_rfl) (by kernel_rfl) ?hQ18n1428 ?hy18n1428 (by assumption) ?rest18n1428
        case hi18n1428 => (simp only [List.getElem?_toArray, List.getElem?_cons_succ, List.getElem?_cons_zero]; rfl)
        case hQ18n1428 => exact fun _ _ _ h => h
        case hy18n1428 => exact Or.inl ⟨by rfl, by (intro w hSw; (try dsimp only at hSw); go_simp; (try with_reducible rfl))⟩
        try simp only [Act.put, List.setIfInBounds_toArray, List.set_cons_zero, List.set_cons_succ]
        refine' wpAnyH_take (i := 19) (oi := _) (v := _) ?hi19n1428 (by kernel_rfl) (by kernel_rfl) (by kernel_rfl) ?hQ19n1428 ?hy19n1428 (by assumption) ?rest19n1428
        case hi19n1428 => (simp only [List.getElem?_toArray, List.getElem?_cons_succ, List.getElem?_cons_zero]; rfl)
        case hQ19n1428 => exact fun _ _ _ h => h
        case hy19n1428 => exact Or.inl ⟨by rfl, by (intro w hSw; (try dsimp only at hSw); go_simp; (try with_reducible rfl))⟩
        try simp only [Act.put, List.setIfInBounds_toArray, List.set_cons_zero, List.set_cons_succ]
        refine' wpAnyH_take (i := 21) (oi := _) (v := _) ?hi21n1428 (by kernel_rfl) (by kernel_rfl) (by kernel_rfl) ?hQ21n1428 ?hy21n1428 (by assumption) ?rest21n1428
        case hi21n1428 => (simp only [List.getElem?_toArray, List.getElem?_cons_succ, List.getElem?_cons_zero]; rfl)
        case hQ21n1428 => exact fun _ _ _ h => h
        case hy21n1428 => exact Or.inl ⟨by rfl, by (intro w hSw; (try dsimp only at hSw); go_simp; (try with_reducible rfl))⟩
        try simp only [Act.put, List.setIfInBounds_toArray, List.set_cons_zero, List.set_cons_succ]
        refine' wpAnyH_take (i := 24) (oi := _) (v := _) ?hi24n1428 (by kernel_rfl) (by kernel_rfl) (by kernel_rfl) ?hQ24n1428 ?hy24n1428 (by assumption) ?rest24n1428
        case hi24n1428 => (simp only [List.getElem?_toArray, List.getElem?_cons_succ, List.getElem?_cons_zero]; rfl)
        case hQ24n1428 => exact fun _ _ _ h => h
        case hy24n1428 => exact Or.inl ⟨by rfl, by (intro w hSw; (try dsimp only at hSw); go_simp; (try with_reducible rfl))⟩
        try simp only [Act.put, List.setIfInBounds_toArray, List.set_cons_zero, List.set_cons_succ]
        refine' wpAnyH_take (i := 25) (oi := _) (v := _) ?hi25n1428 (by kernel_rfl) (by kernel_rfl) (by kernel_rfl) ?hQ25n1428 ?hy25n1428 (by assumption) ?rest25n1428
        case hi25n1428 => (simp only [List.getElem?_toArray, List.getElem?_cons_succ, List.getElem?_cons_zero]; rfl)
        case hQ25n1428 => exact fun _ _ _ h => h
        case hy25n1428 => exact Or.inl ⟨by rfl, by (intro w hSw; (try dsimp only at hSw); go_simp; (try with_reducible rfl))⟩
        try simp only [Act.put, List.setIfInBounds_toArray, List.set_cons_zero, List.set_cons_succ]
        refine wpAnyH_ready (rs := [20]) (by kernel_rfl) (by simp) ?_
        refine AllReadyH.cons (by (simp only [List.getElem?_toArray, List.getElem?_cons_succ, List.getElem?_cons_zero]; rfl)) (fun K hK => ?_) AllReadyH.nil
        rw [if_pos (by rfl)]
        go_simp
        refine (M3'.out _ _ _ (Rd.of_own o3)).mono ?_
        rintro e w22 ⟨rfl, b22⟩
        replace k3 := k3.below b22 k3.1
        replace k7 := k7.below b22 k7.1
        replace o1 := own_below o1 b22 (own_lt o1)
        replace o2 := own_below o2 b22 (own_lt o2)
        replace o3 := own_below o3 b22 (own_lt o3)
        replace o11 := own_below o11 b22 (own_lt o11)
        have zw22 := b22.size
        replace bb := bb.trans (b22.mono bb.size)
        clear b22
        have q0 := And.intro k3.four (k7.four)
        dsimp only
        refine hK.out _ _ (by first | (dsimp only; exact q0) | exact q0) (fun hHeld => ?_)
        clear q0 hK K
        try simp only [Act.put, List.setIfInBounds_toArray, List.set_cons_zero, List.set_cons_succ]
        refine wpAnyH_ready (rs := [22]) (by kernel_rfl) (by simp) ?_
        refine AllReadyH.cons (by (simp only [List.getElem?_toArray, List.getElem?_cons_succ, List.getElem?_cons_zero]; rfl)) (fun K hK => ?_) AllReadyH.nil
        rw [if_pos (by rfl)]
        go_simp
        refine (M1'.out _ _ _ (Rd.of_own o1)).mono ?_
        rintro e w23 ⟨rfl, b23⟩
        replace k3 := k3.below b23 k3.1
        replace k7 := k7.below b23 k7.1
        replace o1 := own_below o1 b23 (own_lt o1)
        replace o2 := own_below o2 b23 (own_lt o2)
        replace o3 := own_below o3 b23 (own_lt o3)
        replace o11 := own_below o11 b23 (own_lt o11)
        have zw23 := b23.size
        replace bb := bb.trans (b23.mono bb.size)
        clear b23
        have q0 := And.intro k3.four (k7.four)
        dsimp only
        refine hK.out _ _ (by first | (dsimp only; exact q0) | exact q0) (fun hHeld => ?_)
        clear q0 hK K
        try simp only [Act.put, List.setIfInBounds_toArray, List.set_cons_zero, List.set_cons_succ]
        refine' wpAnyH_take (i := 23) (oi := _) (v := _) ?hi23n1469 (by kernel_rfl) (by kernel_rfl) (by kernel_rfl) ?hQ23n1469 ?hy23n1469 (by assumption) ?rest23n1469
        case hi23n1469 => (simp only [List.getElem?_toArray, List.getElem?_cons_succ, List.getElem?_cons_zero]; rfl)
        case hQ23n1469 => exact fun _ _ _ h => h
        case hy23n1469 => exact Or.inl ⟨by rfl, by (intro w hSw; (try dsimp only at hSw); go_simp; (try with_reducible rfl))⟩
        try simp only [Act.put, List.setIfInBounds_toArray, List.set_cons_zero, List.set_cons_succ]
        refine' wpAnyH_take (i := 26) (oi := _) (v := _) ?hi26n1469 (by kernel_rfl) (by kernel_rfl) (by kernel_rfl) ?hQ26n1469 ?hy26n1469 (by assumption) ?rest26n1469
        case hi26n1469 => (simp only [List.getElem?_toArray, List.getElem?_cons_succ, List.getElem?_cons_zero]; rfl)
        case hQ26n1469 => exact fun _ _ _ h => h
        case hy26n1469 => exact Or.inl ⟨by rfl, by (intro w hSw; (try dsimp only at hSw); go_simp; (try with_reducible rfl))⟩
        try simp only [Act.put, List.setIfInBounds_toArray, List.set_cons_zero, List.set_cons_succ]
        refine' wpAnyH_take (i := 27) (oi := _) (v := _) ?hi27n1469 (by kernel_rfl) (by kernel_rfl) (by kernel_rfl) ?hQ27n1469 ?hy27n1469 (by assumption) ?rest27n1469
        case hi27n1469 => (simp only [List.getElem?_toArray, List.getElem?_cons_succ, List.getElem?_cons_zero]; rfl)
        case hQ27n1469 => exact fun _ _ _ h => h
        case hy27n1469 => exact Or.inl ⟨by rfl, by (intro w hSw; (try dsimp only at hSw); go_simp; (try with_reducible rfl))⟩
        try simp only [Act.put, List.setIfInBounds_toArray, List.set_cons_zero, List.set_cons_succ]
        refine' wpAnyH_take (i := 28) (oi := _) (v := _) ?hi28n1469 (by kernel_rfl) (by kernel_rfl) (by kernel_rfl) ?hQ28n1469 ?hy28n1469 (by assumption) ?rest28n1469
        case hi28n1469 => (simp only [List.getElem?_toArray, List.getElem?_cons_succ, List.getElem?_cons_zero]; rfl)
        case hQ28n1469 => exact fun _ _ _ h => h
        case hy28n1469 => exact Or.inl ⟨by rfl, by (intro w hSw; (try dsimp only at hSw); go_simp; (try with_reducible rfl))⟩
        try simp only [Act.put, List.setIfInBounds_toArray, List.set_cons_zero, List.set_cons_succ]
        refine wpAnyH_done (by kernel_rfl) ?_ _
        clear hHeld
        clear lo11 mo11
        clear lo2 mo2
        clear o11 o2
        clear hff htt hmm hw1 hw2
        have ck3 := k3.2.1
        have yk3 := k3.1
        go_wp2_with fail
        clear ck3 yk3
        have K3 := Lib.hid k3
        have K7 := Lib.hid k7
        have OA := Lib.hid (Rd.of_own o1)
        have OB := Lib.hid (Rd.of_own o3)
        have BB := Lib.hid bb
        clear k3 k7 o1 o3 bb
        go_loopw [33] (fun i wr => ∃ k : Nat, b' ≤ k ∧ k ≤ n' ∧ i = .int .i64 k ∧ Still w23 wr) (fun i _ => n' - (intOf i).toNat)
        case atStart => exact ⟨b', Nat.le_refl _, hbn, rfl, Still.refl _⟩
        case round =>
          obtain ⟨k, hk0, hk1, rfl, hst⟩ := hrel
          have hbd := hst.below w23.heap.size
          have kk3 := K3.out.below hbd K3.out.1
          have kk7 := K7.out.below hbd K7.out.1
          have ck3 := kk3.2.1
          have yk3 := kk3.1
          have ck7 := kk7.2.1
          have yk7 := kk7.1
          by_cases hlt : k < n'
          · have hlow := LOW.out k hlt
            have hql := HQL.out
            rcases OA.out.below' hbd with ⟨h', _⟩ | ⟨b1, off1, cp1, hv1, _, hbs1, _, hc1⟩
            · rw [h'] at hnl; simp at hnl; omega
            rcases OB.out.below' hbd with ⟨h', _⟩ | ⟨b2, off2, cp2, hv2, _, hbs2, _, hc2⟩
            · rw [h'] at hql; simp at hql; omega
            cases hv1
            cases hv2
            have c1 := hc1 k (by omega)
            have c2 := hc2 k (by omega)
            rw [hlow] at c2
            obtain ⟨y, hye⟩ : ∃ y, ws.getD k 0 = y := ⟨_, rfl⟩
            rw [hye] at c1 c2
            have hl1 : (k : Int) < (ws.length : Int) := by omega
            have hl2 : (k : Int) < (qs.length : Int) := by omega
            have hl3 : (k : Int) < (n' : Int) := by omega
            have hyy : (y != y) = false := by simp
            have HST := Lib.hid hst
            clear hql
            clear hc1 hc2 hlow hye kk3 kk7 hbd hst
            go_wp2_with fail
            go_quiet (fail)
            have HS2 := Lib.hid (HST.out.trans ⟨nq, rfl⟩)
            go_wp2
            go_roundw
            case rel => exact ⟨k + 1, by omega, hlt, by go_num, HS2.out⟩
            case measure => simp [intOf]; omega
          · have hl3 : ¬ (k : Int) < (n' : Int) := by omega
            have BW := Lib.hid (BB.out.trans (hbd.mono BB.out.size))
            have OW := Lib.hid (OB.out.below' hbd)
            clear kk3 kk7 hbd hst
            go_wp2_with fail
            refine (O3'.out _ _ _ OW.out).mono ?_
            rintro e w9 ⟨rfl, b9⟩
            have BX := Lib.hid (BW.out.trans (b9.mono BW.out.size))
            clear b9
            go_wp2
            go_ret
            exact ⟨rfl, BX.out⟩
      · have q1 := N1.out
        have q2 := N2.out
        rw [if_pos rfl] at q1 q2
        have N1' := Lib.hid q1
        have N2' := Lib.hid q2
        have q3 := NO.out rfl
        have NO' := Lib.hid q3
        clear N1 N2 NO q1 q2 q3
        go_wp2_with fail
        refine (N1'.out _).mono ?_
        rintro e w13 ⟨v9, rfl, o9, b13⟩
        have lo9 : ∀ k, v9.ownBlock = some k → w12.heap.size ≤ k := fun k hk => (o9.lt k hk).1
        have mo9 := own_lt o9
        replace k3 := k3.below b13 k3.1
        replace k7 := k7.below b13 k7.1
        replace k23 := k23.below b13 k23.1
        replace o1 := own_below o1 b13 (own_lt o1)
        replace o2 := own_below o2 b13 (own_lt o2)
        replace o3 := own_below o3 b13 (own_lt o3)
        replace o6 := own_below o6 b13 (own_lt o6)
        replace o7 := own_below o7 b13 (own_lt o7)
        replace o8 := own_below o8 b13 (own_lt o8)
        have zw13 := b13.size
        replace bb := bb.trans (b13.mono bb.size)
        clear b13
        obtain ⟨ao9, do9, rfl⟩ := own_form o9
        go_wp2_with fail
        generalize hx : w13.alloc _ = xk25
        obtain ⟨bx, k25⟩ := Bx.alloc hx
        clear hx
        replace k3 := k3.below bx k3.1
        replace k7 := k7.below bx k7.1
        replace k23 := k23.below bx k23.1
        replace o1 := own_below o1 bx (own_lt o1)
        replace o2 := own_below o2 bx (own_lt o2)
        replace o3 := own_below o3 bx (own_lt o3)
        replace o6 := own_below o6 bx (own_lt o6)
        replace o7 := own_below o7 bx (own_lt o7)
        replace o8 := own_below o8 bx (own_lt o8)
        replace o9 := own_below o9 bx (own_lt o9)
        have zxk25 := bx.size
        replace bb := bb.trans (bx.mono bb.size)
        clear bx
        have uk25 := k25.1
        refine (N2'.out _).mono ?_
        rintro e w14 ⟨v10, rfl, o10, b14⟩
        have lo10 : ∀ k, v10.ownBlock = some k → xk25.heap.size ≤ k := fun k hk => (o10.lt k hk).1
        have mo10 := own_lt o10
        replace k3 := k3.below b14 k3.1
        replace k7 := k7.below b14 k7.1
        replace k23 := k23.below b14 k23.1
        replace k25 := k25.below b14 k25.1
        replace o1 := own_below o1 b14 (own_lt o1)
        replace o2 := own_below o2 b14 (own_lt o2)
        replace o3 := own_below o3 b14 (own_lt o3)
        replace o6 := own_below o6 b14 (own_lt o6)
        replace o7 := own_below o7 b14 (own_lt o7)
        replace o8 := own_below o8 b14 (own_lt o8)
        replace o9 := own_below o9 b14 (own_lt o9)
        have zw14 := b14.size
        replace bb := bb.trans (b14.mono bb.size)
        clear b14
        obtain ⟨ao10, do10, rfl⟩ := own_form o10
        go_upto_region 15 with fail
        generalize hx : w14.alloc _ = xk27
        obtain ⟨bx, k27⟩ := Bx.alloc hx
        clear hx
        replace k3 := k3.below bx k3.1
        replace k7 := k7.below bx k7.1
        replace k23 := k23.below bx k23.1
        replace k25 := k25.below bx k25.1
        replace o1 := own_below o1 bx (own_lt o1)
        replace o2 := own_below o2 bx (own_lt o2)
        replace o3 := own_below o3 bx (own_lt o3)
        replace o6 := own_below o6 bx (own_lt o6)
        replace o7 := own_below o7 bx (own_lt o7)
        replace o8 := own_below o8 bx (own_lt o8)
        replace o9 := own_below o9 bx (own_lt o9)
        replace o10 := own_below o10 bx (own_lt o10)
        have zxk27 := bx.size
        replace bb := bb.trans (bx.mono bb.size)
        clear bx
        have uk27 := k27.1
        clear lo10 mo10
        clear k27 o10
        have q0 := And.intro k23.four (k25.four)
        refine wp_region_held_drew (S := (fun w' => (w'.cell? ⟨w11.heap.size, 0, none⟩ = some (.slice ao8 rs.length do8) ∧ w'.cell? ⟨w11.heap.size, 1, none⟩ = some (.int .i64 rh) ∧ w'.cell? ⟨w11.heap.size, 2, none⟩ = some (.int .i64 rb) ∧ w'.cell? ⟨w11.heap.size, 3, none⟩ = some (.int .i64 rn)) ∧ (w'.cell? ⟨w13.heap.size, 0, none⟩ = some (.slice ao9 nw.length do9) ∧ w'.cell? ⟨w13.heap.size, 1, none⟩ = some (.int .i64 nn) ∧ w'.cell? ⟨w13.heap.size, 2, none⟩ = some (.int .i64 0) ∧ w'.cell? ⟨w13.heap.size, 3, none⟩ = some (.int .i64 0)))) (by kernel_rfl) (by first | (dsimp only; exact q0) | (exact q0)) (fun hHeld => ?_)
        refine' wpAnyH_take (i := 0) (oi := _) (v := _) ?hi0n1624 (by kernel_rfl) (by kernel_rfl) (by kernel_rfl) ?hQ0n1624 ?hy0n1624 (by assumption) ?rest0n1624
        case hi0n1624 => (simp only [List.getElem?_toArray, List.getElem?_cons_zero]; rfl)
        case hQ0n1624 => exact fun _ _ _ h => h
        case hy0n1624 => exact Or.inl ⟨by rfl, by (intro w hSw; (try dsimp only at hSw); go_simp; (try with_reducible rfl))⟩
        try simp only [Act.put, List.setIfInBounds_toArray, List.set_cons_zero, List.set_cons_succ]
        refine' wpAnyH_take (i := 1) (oi := _) (v := _) ?hi1n1624 (by kernel_rfl) (by kernel_rfl) (by kernel_rfl) ?hQ1n1624 ?hy1n1624 (by assumption) ?rest1n1624
        case hi1n1624 => (simp only [List.getElem?_toArray, List.getElem?_cons_succ, List.getElem?_cons_zero]; rfl)
        case hQ1n1624 => exact fun _ _ _ h => h
        case hy1n1624 => exact Or.inl ⟨by rfl, by (intro w hSw; (try dsimp only at hSw); go_simp; (try with_reducible rfl))⟩
        try simp only [Act.put, List.setIfInBounds_toArray, List.set_cons_zero, List.set_cons_succ]
        refine' wpAnyH_take (i := 2) (oi := _) (v := _) ?hi2n1624 (by kernel_rfl) (by kernel_rfl) (by kernel_rfl) ?hQ2n1624 ?hy2n1624 (by assumption) ?rest2n1624
        case hi2n1624 => (simp only [List.getElem?_toArray, List.getElem?_cons_succ, List.getElem?_cons_zero]; rfl)
        case hQ2n1624 => exact fun _ _ _ h => h
        case hy2n1624 => exact Or.inl ⟨by rfl, by (intro w hSw; (try dsimp only at hSw); go_simp; (try with_reducible rfl))⟩
        try simp only [Act.put, List.setIfInBounds_toArray, List.set_cons_zero, List.set_cons_succ]
        refine' wpAnyH_take (i := 3) (oi := _) (v := _) ?hi3n1624 (by kernel_rfl) (by kernel_rfl) (by kernel_rfl) ?hQ3n1624 ?hy3n1624 (by assumption) ?rest3n1624
        case hi3n1624 => (simp only [List.getElem?_toArray, List.getElem?_cons_succ, List.getElem?_cons_zero]; rfl)
        case hQ3n1624 => exact fun _ _ _ h => h
        case hy3n1624 => exact Or.inl ⟨by rfl, by (intro w hSw; (try dsimp only at hSw); go_simp; (try with_reducible rfl))⟩
        try simp only [Act.put, List.setIfInBounds_toArray, List.set_cons_zero, List.set_cons_succ]
        refine' wpAnyH_take (i := 4) (oi := _) (v := _) ?hi4n1624 (by kernel_rfl) (by kernel_rfl) (by kernel_rfl) ?hQ4n1624 ?hy4n1624 (by assumption) ?rest4n1624
        case hi4n1624 => (simp only [List.getElem?_toArray, List.getElem?_cons_succ, List.getElem?_cons_zero]; rfl)
        case hQ4n1624 => exact fun _ _ _ h => h
        case hy4n1624 => exact Or.inl ⟨by rfl, by (intro w hSw; (try dsimp only at hSw); go_simp; (try with_reducible rfl))⟩
        try simp only [Act.put, List.setIfInBounds_toArray, List.set_cons_zero, List.set_cons_succ]
        refine' wpAnyH_take (i := 5) (oi := _) (v := _) ?hi5n1624 (by kernel_rfl) (by kernel_rfl) (by kernel_rfl) ?hQ5n1624 ?hy5n1624 (by assumption) ?rest5n1624
        case hi5n1624 => (simp only [List.getElem?_toArray, List.getElem?_cons_succ, List.getElem?_cons_zero]; rfl)
        case hQ5n1624 => exact fun _ _ _ h => h
        case hy5n1624 => exact Or.inl ⟨by rfl, by (intro w hSw; (try dsimp only at hSw); go_simp; (try with_reducible rfl))⟩
        try simp only [Act.put, List.setIfInBounds_toArray, List.set_cons_zero, List.set_cons_succ]
        refine' wpAnyH_take (i := 6) (oi := _) (v := _) ?hi6n1624 (by kernel_rfl) (by kernel_rfl) (by kernel_rfl) ?hQ6n1624 ?hy6n1624 (by assumption) ?rest6n1624
        case hi6n1624 => (simp only [List.getElem?_toArray, List.getElem?_cons_succ, List.getElem?_cons_zero]; rfl)
        case hQ6n1624 => exact fun _ _ _ h => h
        case hy6n1624 => exact Or.inl ⟨by rfl, by (intro w hSw; (try dsimp only at hSw); go_simp; (try with_reducible rfl))⟩
        try simp only [Act.put, List.setIfInBounds_toArray, List.set_cons_zero, List.set_cons_succ]
        refine' wpAnyH_take (i := 7) (oi := _) (v := _) ?hi7n1624 (by kernel_rfl) (by kernel_rfl) (by kernel_rfl) ?hQ7n1624 ?hy7n1624 (by assumption) ?rest7n1624
        case hi7n1624 => (simp only [List.getElem?_toArray, List.getElem?_cons_succ, List.getElem?_cons_zero]; rfl)
        case hQ7n1624 => exact fun _ _ _ h => h
        case hy7n1624 => exact Or.inl ⟨by rfl, by (intro w hSw; (try dsimp only at hSw); go_simp; (try with_reducible rfl))⟩
        try simp only [Act.put, List.setIfInBounds_toArray, List.set_cons_zero, List.set_cons_succ]
        refine' wpAnyH_take (i := 8) (oi := _) (v := _) ?hi8n1624 (by kernel_rfl) (by kernel_rfl) (by kernel_rfl) ?hQ8n1624 ?hy8n1624 (by assumption) ?rest8n1624
        case hi8n1624 => (simp only [List.getElem?_toArray, List.getElem?_cons_succ, List.getElem?_cons_zero]; rfl)
        case hQ8n1624 => exact fun _ _ _ h => h
        case hy8n1624 => exact Or.inl ⟨by rfl, by (intro w hSw; (try dsimp only at hSw); go_simp; (try with_reducible rfl))⟩
        try simp only [Act.put, List.setIfInBounds_toArray, List.set_cons_zero, List.set_cons_succ]
        refine' wpAnyH_take (i := 9) (oi := _) (v := _) ?hi9n1624 (by kernel_rfl) (by kernel_rfl) (by kernel_rfl) ?hQ9n1624 ?hy9n1624 (by assumption) ?rest9n1624
        case hi9n1624 => (simp only [List.getElem?_toArray, List.getElem?_cons_succ, List.getElem?_cons_zero]; rfl)
        case hQ9n1624 => exact fun _ _ _ h => h
        case hy9n1624 => exact Or.inl ⟨by rfl, by (intro w hSw; (try dsimp only at hSw); go_simp; (try with_reducible rfl))⟩
        try simp only [Act.put, List.setIfInBounds_toArray, List.set_cons_zero, List.set_cons_succ]
        refine' wpAnyH_take (i := 10) (oi := _) (v := _) ?hi10n1624 (by kernel_rfl) (by kernel_rfl) (by kernel_rfl) ?hQ10n1624 ?hy10n1624 (by assumption) ?rest10n1624
        case hi10n1624 => (simp only [List.getElem?_toArray, List.getElem?_cons_succ, List.getElem?_cons_zero]; rfl)
        case hQ10n1624 => exact fun _ _ _ h => h
        case hy10n1624 => exact Or.inl ⟨by rfl, by (intro w hSw; (try dsimp only at hSw); go_simp; (try with_reducible rfl))⟩
        try simp only [Act.put, List.setIfInBounds_toArray, List.set_cons_zero, List.set_cons_succ]
        refine' wpAnyH_take (i := 11) (oi := _) (v := _) ?hi11n1624 (by kernel_rfl) (by kernel_rfl) (by kernel_rfl) ?hQ11n1624 ?hy11n1624 (by assumption) ?rest11n1624
        case hi11n1624 => (simp only [List.getElem?_toArray, List.getElem?_cons_succ, List.getElem?_cons_zero]; rfl)
        case hQ11n1624 => exact fun _ _ _ h => h
        case hy11n1624 => exact Or.inl ⟨by rfl, by (intro w hSw; (try dsimp only at hSw); go_simp; (try with_reducible rfl))⟩
        try simp only [Act.put, List.setIfInBounds_toArray, List.set_cons_zero, List.set_cons_succ]
        refine' wpAnyH_take (i := 12) (oi := _) (v := _) ?hi12n1624 (by kernel_rfl) (by kernel_rfl) (by kernel_rfl) ?hQ12n1624 ?hy12n1624 (by assumption) ?rest12n1624
        case hi12n1624 => (simp only [List.getElem?_toArray, List.getElem?_cons_succ, List.getElem?_cons_zero]; rfl)
        case hQ12n1624 => exact fun _ _ _ h => h
        case hy12n1624 => exact Or.inl ⟨by rfl, by (intro w hSw; (try dsimp only at hSw); go_simp; (try with_reducible rfl))⟩
        try simp only [Act.put, List.setIfInBounds_toArray, List.set_cons_zero, List.set_cons_succ]
        refine' wpAnyH_take (i := 13) (oi := _) (v := _) ?hi13n1624 (by kernel_rfl) (by kernel_rfl) (by kernel_rfl) ?hQ13n1624 ?hy13n1624 (by assumption) ?rest13n1624
        case hi13n1624 => (simp only [List.getElem?_toArray, List.getElem?_cons_succ, List.getElem?_cons_zero]; rfl)
        case hQ13n1624 => exact fun _ _ _ h => h
        case hy13n1624 => exact Or.inl ⟨by rfl, by (intro w hSw; (try dsimp only at hSw); go_simp; (try with_reducible rfl))⟩
        try simp only [Act.put, List.setIfInBounds_toArray, List.set_cons_zero, List.set_cons_succ]
        refine' wpAnyH_take (i := 14) (oi := _) (v := _) ?hi14n1624 (by kernel_rfl) (by kernel_rfl) (by kernel_rfl) ?hQ14n1624 ?hy14n1624 (by assumption) ?rest14n1624
        case hi14n1624 => (simp only [List.getElem?_toArray, List.getElem?_cons_succ, List.getElem?_cons_zero]; rfl)
        case hQ14n1624 => exact fun _ _ _ h => h
        case hy14n1624 => exact Or.inl ⟨by rfl, by (intro w hSw; (try dsimp only at hSw); go_simp; (try with_reducible rfl))⟩
        try simp only [Act.put, List.setIfInBounds_toArray, List.set_cons_zero, List.set_cons_succ]
        refine' wpAnyH_take (i := 15) (oi := _) (v := _) ?hi15n1624 (by kernel_rfl) (by kernel_rfl) (by kernel_rfl) ?hQ15n1624 ?hy15n1624 (by assumption) ?rest15n1624
        case hi15n1624 => (simp only [List.getElem?_toArray, List.getElem?_cons_succ, List.getElem?_cons_zero]; rfl)
        case hQ15n1624 => exact fun _ _ _ h => h
        case hy15n1624 => exact Or.inl ⟨by rfl, by (intro w hSw; (try dsimp only at hSw); go_simp; (try with_reducible rfl))⟩
        try simp only [Act.put, List.setIfInBounds_toArray, List.set_cons_zero, List.set_cons_succ]
        obtain ⟨xd15, hxw⟩ : ∃ xd, xk27.drew = xd := ⟨_, rfl⟩
        rw [hxw] at hHeld ⊢
        have bd : Below xk27.heap.size xk27 xd15 := by rw [← hxw]; exact (Below.refl _ _).drew
        clear hxw q0
        replace k3 := k3.below bd k3.1
        replace k7 := k7.below bd k7.1
        replace k23 := k23.below bd k23.1
        replace k25 := k25.below bd k25.1
        replace o1 := own_below o1 bd (own_lt o1)
        replace o2 := own_below o2 bd (own_lt o2)
        replace o3 := own_below o3 bd (own_lt o3)
        replace o6 := own_below o6 bd (own_lt o6)
        replace o7 := own_below o7 bd (own_lt o7)
        replace o8 := own_below o8 bd (own_lt o8)
        replace o9 := own_below o9 bd (own_lt o9)
        have zxd15 := bd.size
        replace bb := bb.trans (bd.mono bb.size)
        clear bd
        refine wpAnyH_ready (rs := [16]) (by kernel_rfl) (by simp) ?_
        refine AllReadyH.cons (by (simp only [List.getElem?_toArray, List.getElem?_cons_succ, List.getElem?_cons_zero]; rfl)) (fun K hK => ?_) AllReadyH.nil
        rw [if_pos (by rfl)]
        go_simp
        refine (sameInts_same _ _ _ _ (Rd.of_own o6) (Rd.of_own o7)).mono ?_
        rintro e w16 ⟨rfl, b16⟩
        replace k3 := k3.below b16 k3.1
        replace k7 := k7.below b16 k7.1
        replace k23 := k23.below b16 k23.1
        replace k25 := k25.below b16 k25.1
        replace o1 := own_below o1 b16 (own_lt o1)
        replace o2 := own_below o2 b16 (own_lt o2)
        replace o3 := own_below o3 b16 (own_lt o3)
        replace o6 := own_below o6 b16 (own_lt o6)
        replace o7 := own_below o7 b16 (own_lt o7)
        replace o8 := own_below o8 b16 (own_lt o8)
        replace o9 := own_below o9 b16 (own_lt o9)
        have zw16 := b16.size
        replace bb := bb.trans (b16.mono bb.size)
        clear b16
        have q0 := And.intro k23.four (k25.four)
        dsimp only
        refine hK.out _ _ (by first | (dsimp only; exact q0) | exact q0) (fun hHeld => ?_)
        clear q0 hK K
        try simp only [Act.put, List.setIfInBounds_toArray, List.set_cons_zero, List.set_cons_succ]
        refine' wpAnyH_take (i := 17) (oi := _) (v := _) ?hi17n1668 (by kernel_rfl) (by kernel_rfl) (by kernel_rfl) ?hQ17n1668 ?hy17n1668 (by assumption) ?rest17n1668
        case hi17n1668 => (simp only [List.getElem?_toArray, List.getElem?_cons_succ, List.getElem?_cons_zero]; rfl)
        case hQ17n1668 => exact fun _ _ _ h => h
        case hy17n1668 => exact Or.inl ⟨by rfl, by (intro w hSw; (try dsimp only at hSw); go_simp; (try with_reducible rfl))⟩
        try simp only [Act.put, List.setIfInBounds_toArray, List.set_cons_zero, List.set_cons_succ]
        refine' wpAnyH_take (i := 18) (oi := _) (v := _) ?hi18n1668 (by kernel_rfl) (by kernel_rfl) (by kernel_rfl) ?hQ18n1668 ?hy18n1668 (by assumption) ?rest18n1668
        case hi18n1668 => (simp only [List.getElem?_toArray, List.getElem?_cons_succ, List.getElem?_cons_zero]; rfl)
        case hQ18n1668 => exact fun _ _ _ h => h
        case hy18n1668 => exact Or.inl ⟨by rfl, by (intro w hSw; (try dsimp only at hSw); go_simp; (try with_reducible rfl))⟩
        try simp only [Act.put, List.setIfInBounds_toArray, List.set_cons_zero, List.set_cons_succ]
        refine' wpAnyH_take (i := 19) (oi := _) (v := _) ?hi19n1668 (by kernel_rfl) (by kernel_rfl) (by kernel_rfl) ?hQ19n1668 ?hy19n1668 (by assumption) ?rest19n1668
        case hi19n1668 => (simp only [List.getElem?_toArray, List.getElem?_cons_succ, List.getElem?_cons_zero]; rfl)
        case hQ19n1668 => exact fun _ _ _ h => h
        case hy19n1668 => exact Or.inl ⟨by rfl, by (intro w hSw; (try dsimp only at hSw); go_simp; (try with_reducible rfl))⟩
        try simp only [Act.put, List.setIfInBounds_toArray, List.set_cons_zero, List.set_cons_succ]
        refine' wpAnyH_take (i := 20) (oi := _) (v := _) ?hi20n1668 (by kernel_rfl) (by kernel_rfl) (by kernel_rfl) ?hQ20n1668 ?hy20n1668 (by assumption) ?rest20n1668
        case hi20n1668 => (simp only [List.getElem?_toArray, List.getElem?_cons_succ, List.getElem?_cons_zero]; rfl)
        case hQ20n1668 => exact fun _ _ _ h => h
        case hy20n1668 => exact Or.inl ⟨by rfl, by (intro w hSw; (try dsimp only at hSw); go_simp; (try with_reducible rfl))⟩
        try simp only [Act.put, List.setIfInBounds_toArray, List.set_cons_zero, List.set_cons_succ]
        refine' wpAnyH_take (i := 22) (oi := _) (v := _) ?hi22n1668 (by kernel_rfl) (by kernel_rfl) (by kernel_rfl) ?hQ22n1668 ?hy22n1668 (by assumption) ?rest22n1668
        case hi22n1668 => (simp only [List.getElem?_toArray, List.getElem?_cons_succ, List.getElem?_cons_zero]; rfl)
        case hQ22n1668 => exact fun _ _ _ h => h
        case hy22n1668 => exact Or.inl ⟨by rfl, by (intro w hSw; (try dsimp only at hSw); go_simp; (try with_reducible rfl))⟩
        try simp only [Act.put, List.setIfInBounds_toArray, List.set_cons_zero, List.set_cons_succ]
        refine wpAnyH_ready (rs := [21]) (by kernel_rfl) (by simp) ?_
        refine AllReadyH.cons (by (simp only [List.getElem?_toArray, List.getElem?_cons_succ, List.getElem?_cons_zero]; rfl)) (fun K hK => ?_) AllReadyH.nil
        rw [if_pos (by rfl)]
        go_simp
        refine (M4.out _ _ _ (Rd.of_own o8)).mono ?_
        rintro e w17 ⟨rfl, b17⟩
        replace k3 := k3.below b17 k3.1
        replace k7 := k7.below b17 k7.1
        replace k23 := k23.below b17 k23.1
        replace k25 := k25.below b17 k25.1
        replace o1 := own_below o1 b17 (own_lt o1)
        replace o2 := own_below o2 b17 (own_lt o2)
        replace o3 := own_below o3 b17 (own_lt o3)
        replace o6 := own_below o6 b17 (own_lt o6)
        replace o7 := own_below o7 b17 (own_lt o7)
        replace o8 := own_below o8 b17 (own_lt o8)
        replace o9 := own_below o9 b17 (own_lt o9)
        have zw17 := b17.size
        replace bb := bb.trans (b17.mono bb.size)
        clear b17
        have q0 := And.intro k23.four (k25.four)
        dsimp only
        refine hK.out _ _ (by first | (dsimp only; exact q0) | exact q0) (fun hHeld => ?_)
        clear q0 hK K
        try simp only [Act.put, List.setIfInBounds_toArray, List.set_cons_zero, List.set_cons_succ]
        refine wpAnyH_ready (rs := [23]) (by kernel_rfl) (by simp) ?_
        refine AllReadyH.cons (by (simp only [List.getElem?_toArray, List.getElem?_cons_succ, List.getElem?_cons_zero]; rfl)) (fun K hK => ?_) AllReadyH.nil
        rw [if_pos (by rfl)]
        go_simp
        refine (M5.out _ _ _ (Rd.of_own o8)).mono ?_
        rintro e w18 ⟨rfl, b18⟩
        replace k3 := k3.below b18 k3.1
        replace k7 := k7.below b18 k7.1
        replace k23 := k23.below b18 k23.1
        replace k25 := k25.below b18 k25.1
        replace o1 := own_below o1 b18 (own_lt o1)
        replace o2 := own_below o2 b18 (own_lt o2)
        replace o3 := own_below o3 b18 (own_lt o3)
        replace o6 := own_below o6 b18 (own_lt o6)
        replace o7 := own_below o7 b18 (own_lt o7)
        replace o8 := own_below o8 b18 (own_lt o8)
        replace o9 := own_below o9 b18 (own_lt o9)
        have zw18 := b18.size
        replace bb := bb.trans (b18.mono bb.size)
        clear b18
        have q0 := And.intro k23.four (k25.four)
        dsimp only
        refine hK.out _ _ (by first | (dsimp only; exact q0) | exact q0) (fun hHeld => ?_)
        clear q0 hK K
        try simp only [Act.put, List.setIfInBounds_toArray, List.set_cons_zero, List.set_cons_succ]
        refine' wpAnyH_take (i := 24) (oi := _) (v := _) ?hi24n1719 (by kernel_rfl) (by kernel_rfl) (by kernel_rfl) ?hQ24n1719 ?hy24n1719 (by assumption) ?rest24n1719
        case hi24n1719 => (simp only [List.getElem?_toArray, List.getElem?_cons_succ, List.getElem?_cons_zero]; rfl)
        case hQ24n1719 => exact fun _ _ _ h => h
        case hy24n1719 => exact Or.inl ⟨by rfl, by (intro w hSw; (try dsimp only at hSw); go_simp; (try with_reducible rfl))⟩
        try simp only [Act.put, List.setIfInBounds_toArray, List.set_cons_zero, List.set_cons_succ]
        refine' wpAnyH_take (i := 25) (oi := _) (v := _) ?hi25n1719 (by kernel_rfl) (by kernel_rfl) (by kernel_rfl) ?hQ25n1719 ?hy25n1719 (by assumption) ?rest25n1719
        case hi25n1719 => (simp only [List.getElem?_toArray, List.getElem?_cons_succ, List.getElem?_cons_zero]; rfl)
        case hQ25n1719 => exact fun _ _ _ h => h
        case hy25n1719 => exact Or.inl ⟨by rfl, by (intro w hSw; (try dsimp only at hSw); go_simp; (try with_reducible rfl))⟩
        try simp only [Act.put, List.setIfInBounds_toArray, List.set_cons_zero, List.set_cons_succ]
        refine' wpAnyH_take (i := 26) (oi := _) (v := _) ?hi26n1719 (by kernel_rfl) (by kernel_rfl) (by kernel_rfl) ?hQ26n1719 ?hy26n1719 (by assumption) ?rest26n1719
        case hi26n1719 => (simp only [List.getElem?_toArray, List.getElem?_cons_succ, List.getElem?_cons_zero]; rfl)
        case hQ26n1719 => exact fun _ _ _ h => h
        case hy26n1719 => exact Or.inl ⟨by rfl, by (intro w hSw; (try dsimp only at hSw); go_simp; (try with_reducible rfl))⟩
        try simp only [Act.put, List.setIfInBounds_toArray, List.set_cons_zero, List.set_cons_succ]
        refine' wpAnyH_take (i := 27) (oi := _) (v := _) ?hi27n1719 (by kernel_rfl) (by kernel_rfl) (by kernel_rfl) ?hQ27n1719 ?hy27n1719 (by assumption) ?rest27n1719
        case hi27n1719 => (simp only [List.getElem?_toArray, List.getElem?_cons_succ, List.getElem?_cons_zero]; rfl)
        case hQ27n1719 => exact fun _ _ _ h => h
        case hy27n1719 => exact Or.inl ⟨by rfl, by (intro w hSw; (try dsimp only at hSw); go_simp; (try with_reducible rfl))⟩
        try simp only [Act.put, List.setIfInBounds_toArray, List.set_cons_zero, List.set_cons_succ]
        refine' wpAnyH_take (i := 28) (oi := _) (v := _) ?hi28n1719 (by kernel_rfl) (by kernel_rfl) (by kernel_rfl) ?hQ28n1719 ?hy28n1719 (by assumption) ?rest28n1719
        case hi28n1719 => (simp only [List.getElem?_toArray, List.getElem?_cons_succ, List.getElem?_cons_zero]; rfl)
        case hQ28n1719 => exact fun _ _ _ h => h
        case hy28n1719 => exact Or.inl ⟨by rfl, by (intro w hSw; (try dsimp only at hSw); go_simp; (try with_reducible rfl))⟩
        try simp only [Act.put, List.setIfInBounds_toArray, List.set_cons_zero, List.set_cons_succ]
        refine' wpAnyH_take (i := 29) (oi := _) (v := _) ?hi29n1719 (by kernel_rfl) (by kernel_rfl) (by kernel_rfl) ?hQ29n1719 ?hy29n1719 (by assumption) ?rest29n1719
        case hi29n1719 => (simp only [List.getElem?_toArray, List.getElem?_cons_succ, List.getElem?_cons_zero]; rfl)
        case hQ29n1719 => exact fun _ _ _ h => h
        case hy29n1719 => exact Or.inl ⟨by rfl, by (intro w hSw; (try dsimp only at hSw); go_simp; (try with_reducible rfl))⟩
        try simp only [Act.put, List.setIfInBounds_toArray, List.set_cons_zero, List.set_cons_succ]
        refine' wpAnyH_take (i := 30) (oi := _) (v := _) ?hi30n1719 (by kernel_rfl) (by kernel_rfl) (by kernel_rfl) ?hQ30n1719 ?hy30n1719 (by assumption) ?rest30n1719
        case hi30n1719 => (simp only [List.getElem?_toArray, List.getElem?_cons_succ, List.getElem?_cons_zero]; rfl)
        case hQ30n1719 => exact fun _ _ _ h => h
        case hy30n1719 => exact Or.inl ⟨by rfl, by (intro w hSw; (try dsimp only at hSw); go_simp; (try with_reducible rfl))⟩
        try simp only [Act.put, List.setIfInBounds_toArray, List.set_cons_zero, List.set_cons_succ]
        refine' wpAnyH_take (i := 31) (oi := _) (v := _) ?hi31n1719 (by kernel_rfl) (by kernel_rfl) (by kernel_rfl) ?hQ31n1719 ?hy31n1719 (by assumption) ?rest31n1719
        case hi31n1719 => (simp only [List.getElem?_toArray, List.getElem?_cons_succ, List.getElem?_cons_zero]; rfl)
        case hQ31n1719 => exact fun _ _ _ h => h
        case hy31n1719 => exact Or.inl ⟨by rfl, by (intro w hSw; (try dsimp only at hSw); go_simp; (try with_reducible rfl))⟩
        try simp only [Act.put, List.setIfInBounds_toArray, List.set_cons_zero, List.set_cons_succ]
        refine' wpAnyH_take (i := 32) (oi := _) (v := _) ?hi32n1719 (by kernel_rfl) (by kernel_rfl) (by kernel_rfl) ?hQ32n1719 ?hy32n1719 (by assumption) ?rest32n1719
        case hi32n1719 => (simp only [List.getElem?_toArray, List.getElem?_cons_succ, List.getElem?_cons_zero]; rfl)
        case hQ32n1719 => exact fun _ _ _ h => h
        case hy32n1719 => exact Or.inl ⟨by rfl, by (intro w hSw; (try dsimp only at hSw); go_simp; (try with_reducible rfl))⟩
        try simp only [Act.put, List.setIfInBounds_toArray, List.set_cons_zero, List.set_cons_succ]
        refine' wpAnyH_take (i := 33) (oi := _) (v := _) ?hi33n1719 (by kernel_rfl) (by kernel_rfl) (by kernel_rfl) ?hQ33n1719 ?hy33n1719 (by assumption) ?rest33n1719
        case hi33n1719 => (simp only [List.getElem?_toArray, List.getElem?_cons_succ, List.getElem?_cons_zero]; rfl)
        case hQ33n1719 => exact fun _ _ _ h => h
        case hy33n1719 => exact Or.inl ⟨by rfl, by (intro w hSw; (try dsimp only at hSw); go_simp; (try with_reducible rfl))⟩
        try simp only [Act.put, List.setIfInBounds_toArray, List.set_cons_zero, List.set_cons_succ]
        refine' wpAnyH_take (i := 34) (oi := _) (v := _) ?hi34n1719 (by kernel_rfl) (by kernel_rfl) (by kernel_rfl) ?hQ34n1719 ?hy34n1719 (by assumption) ?rest34n1719
        case hi34n1719 => (simp only [List.getElem?_toArray, List.getElem?_cons_succ, List.getElem?_cons_zero]; rfl)
        case hQ34n1719 => exact fun _ _ _ h => h
        case hy34n1719 => exact Or.inl ⟨by rfl, by (intro w hSw; (try dsimp only at hSw); go_simp; (try with_reducible rfl))⟩
        try simp only [Act.put, List.setIfInBounds_toArray, List.set_cons_zero, List.set_cons_succ]
        refine wpAnyH_ready (rs := [35]) (by kernel_rfl) (by simp) ?_
        refine AllReadyH.cons (by (simp only [List.getElem?_toArray, List.getElem?_cons_succ, List.getElem?_cons_zero]; rfl)) (fun K hK => ?_) AllReadyH.nil
        rw [if_pos (by rfl)]
        go_simp
        refine (NO'.out _ _ _ (Rd.of_own o9)).mono ?_
        rintro e w19 ⟨rfl, b19⟩
        replace k3 := k3.below b19 k3.1
        replace k7 := k7.below b19 k7.1
        replace k23 := k23.below b19 k23.1
        replace k25 := k25.below b19 k25.1
        replace o1 := own_below o1 b19 (own_lt o1)
        replace o2 := own_below o2 b19 (own_lt o2)
        replace o3 := own_below o3 b19 (own_lt o3)
        replace o6 := own_below o6 b19 (own_lt o6)
        replace o7 := own_below o7 b19 (own_lt o7)
        replace o8 := own_below o8 b19 (own_lt o8)
        replace o9 := own_below o9 b19 (own_lt o9)
        have zw19 := b19.size
        replace bb := bb.trans (b19.mono bb.size)
        clear b19
        have q0 := And.intro k23.four (k25.four)
        dsimp only
        refine hK.out _ _ (by first | (dsimp only; exact q0) | exact q0) (fun hHeld => ?_)
        clear q0 hK K
        try simp only [Act.put, List.setIfInBounds_toArray, List.set_cons_zero, List.set_cons_succ]
        refine' wpAnyH_take (i := 36) (oi := _) (v := _) ?hi36n1745 (by kernel_rfl) (by kernel_rfl) (by kernel_rfl) ?hQ36n1745 ?hy36n1745 (by assumption) ?rest36n1745
        case hi36n1745 => (simp only [List.getElem?_toArray, List.getElem?_cons_succ, List.getElem?_cons_zero]; rfl)
        case hQ36n1745 => exact fun _ _ _ h => h
        case hy36n1745 => exact Or.inl ⟨by rfl, by (intro w hSw; (try dsimp only at hSw); go_simp; (try with_reducible rfl))⟩
        try simp only [Act.put, List.setIfInBounds_toArray, List.set_cons_zero, List.set_cons_succ]
        refine' wpAnyH_take (i := 37) (oi := _) (v := _) ?hi37n1745 (by kernel_rfl) (by kernel_rfl) (by kernel_rfl) ?hQ37n1745 ?hy37n1745 (by assumption) ?rest37n1745
        case hi37n1745 => (simp only [List.getElem?_toArray, List.getElem?_cons_succ, List.getElem?_cons_zero]; rfl)
        case hQ37n1745 => exact fun _ _ _ h => h
        case hy37n1745 => exact Or.inl ⟨by rfl, by (intro w hSw; (try dsimp only at hSw); go_simp; (try with_reducible rfl))⟩
        try simp only [Act.put, List.setIfInBounds_toArray, List.set_cons_zero, List.set_cons_succ]
        refine' wpAnyH_take (i := 38) (oi := _) (v := _) ?hi38n1745 (by kernel_rfl) (by kernel_rfl) (by kernel_rfl) ?hQ38n1745 ?hy38n1745 (by assumption) ?rest38n1745
        case hi38n1745 => (simp only [List.getElem?_toArray, List.getElem?_cons_succ, List.getElem?_cons_zero]; rfl)
        case hQ38n1745 => exact fun _ _ _ h => h
        case hy38n1745 => exact Or.inl ⟨by rfl, by (intro w hSw; (try dsimp only at hSw); go_simp; (try with_reducible rfl))⟩
        try simp only [Act.put, List.setIfInBounds_toArray, List.set_cons_zero, List.set_cons_succ]
        refine wpAnyH_done (by kernel_rfl) ?_ _
        clear hHeld
        clear lo6 mo6
        clear lo7 mo7
        clear lo8 mo8
        clear lo9 mo9
        clear o6 o7 o8 o9 k23 k25
        clear hbo hbf hbt hrr
        obtain ⟨h', b', n', ps, rfl, rfl, rfl, hR, hP⟩ := HYES.out (by first | rfl | exact trivial)
        have hblk := hP.block hR
        have hP1 := hP.ws_
        have hP2 := hP.next
        have hP3 := hP.at_
        have hright := hP.right
        have hfit := hP.fit
        dsimp only at hP1 hP2 hP3 hblk hright
        obtain ⟨t1, t2, t3, t4⟩ := hblk
        have q1 := B3.out
        rw [t1] at q1
        have BT := Lib.hid (fun B v W hr => (q1 B v W hr).mono (fun e w' hh => And.intro (told_is t2 t3 t4 hh.1) hh.2))
        clear q1
        have hrf : heapOk ws h' b' n' = true := hR.okB
        have hr1 : roomOf ws h' b' n' = (b' : Int) + h' - n' := by unfold roomOf; rw [if_pos hrf]
        have hr2 : roomOf qs h' b' qn = (b' : Int) + h' - qn := by unfold roomOf; rw [if_pos hright]
        have q1 := M1.out
        rw [hr1] at q1
        have M1' := Lib.hid q1
        have q2 := M3.out
        rw [hr2] at q2
        have M3' := Lib.hid q2
        have q3 := O3.out
        rw [hright] at q3
        have O3' := Lib.hid q3
        have q4 := fun (j : Nat) (hj : j < n') => Putd.low hP hR hj
        dsimp only at q4
        have LOW := Lib.hid q4
        clear q1 q2 q3 q4
        have hnl := hR.n_le
        have hff : (f != f) = false := by cases f <;> rfl
        have htt : (t != t) = false := by simp
        have hbn := hR.frame.n0
        have hkl := HKL.out
        have hfh := hR.frame.h1
        have hfb := hR.frame.base
        have hmm : ((b' : Int) + h' - qn != (b' : Int) + h' - n' - 1 - ks.length) = false := by rw [hP2]; simp; omega
        clear HYES HNO hP hP1 hP2 hP3 t1 t2 t3 t4 hright hrf hr1 hr2 hR B3 M1 M3 O3
        have ck7 := k7.2.1
        have yk7 := k7.1
        go_wp2_with fail
        clear ck7 yk7
        refine (BT.out _ _ _ (Rd.of_own o3)).mono ?_
        rintro e w20 ⟨⟨u11, rfl, o11⟩, b20⟩
        have lo11 : ∀ k, u11.ownBlock = some k → w19.heap.size ≤ k := fun k hk => (o11.lt k hk).1
        have mo11 := own_lt o11
        replace k3 := k3.below b20 k3.1
        replace k7 := k7.below b20 k7.1
        replace o1 := own_below o1 b20 (own_lt o1)
        replace o2 := own_below o2 b20 (own_lt o2)
        replace o3 := own_below o3 b20 (own_lt o3)
        have zw20 := b20.size
        replace bb := bb.trans (b20.mono bb.size)
        clear b20
        obtain ⟨ao11, do11, rfl⟩ := own_form o11
        go_upto_region 20 with fail
        have hw1 : IntKind.i64.wrap ((b' : Int) + h' - n' - 1) = (b' : Int) + h' - n' - 1 := IntWalk.i64_in _ (by omega)
        have hw2 : IntKind.i64.wrap ((b' : Int) + h' - n' - 1 - ks.length) = (b' : Int) + h' - n' - 1 - ks.length := IntWalk.i64_in _ (by omega)
        have q0 := And.intro k3.four (k7.four)
        refine wp_region_held_drew (S := (fun w' => (w'.cell? ⟨w1.heap.size, 0, none⟩ = some (.slice ao1 ws.length do1) ∧ w'.cell? ⟨w1.heap.size, 1, none⟩ = some (.int .i64 (h' : Int)) ∧ w'.cell? ⟨w1.heap.size, 2, none⟩ = some (.int .i64 (b' : Int)) ∧ w'.cell? ⟨w1.heap.size, 3, none⟩ = some (.int .i64 (n' : Int))) ∧ (w'.cell? ⟨w2.heap.size, 0, none⟩ = some (.slice ao3 qs.length do3) ∧ w'.cell? ⟨w2.heap.size, 1, none⟩ = some (.int .i64 (h' : Int)) ∧ w'.cell? ⟨w2.heap.size, 2, none⟩ = some (.int .i64 (b' : Int)) ∧ w'.cell? ⟨w2.heap.size, 3, none⟩ = some (.int .i64 qn)))) (by kernel_rfl) (by first | (dsimp only; exact q0) | (exact q0)) (fun hHeld => ?_)
        refine' wpAnyH_take (i := 0) (oi := _) (v := _) ?hi0n1814 (by kernel_rfl) (by kernel_rfl) (by kernel_rfl) ?hQ0n1814 ?hy0n1814 (by assumption) ?rest0n1814
        case hi0n1814 => (simp only [List.getElem?_toArray, List.getElem?_cons_zero]; rfl)
        case hQ0n1814 => exact fun _ _ _ h => h
        case hy0n1814 => exact Or.inl ⟨by rfl, by (intro w hSw; (try dsimp only at hSw); go_simp; (try with_reducible rfl))⟩
        try simp only [Act.put, List.setIfInBounds_toArray, List.set_cons_zero, List.set_cons_succ]
        refine' wpAnyH_take (i := 1) (oi := _) (v := _) ?hi1n1814 (by kernel_rfl) (by kernel_rfl) (by kernel_rfl) ?hQ1n1814 ?hy1n1814 (by assumption) ?rest1n1814
        case hi1n1814 => (simp only [List.getElem?_toArray, List.getElem?_cons_succ, List.getElem?_cons_zero]; rfl)
        case hQ1n1814 => exact fun _ _ _ h => h
        case hy1n1814 => exact Or.inl ⟨by rfl, by (intro w hSw; (try dsimp only at hSw); go_simp; (try with_reducible rfl))⟩
        try simp only [Act.put, List.setIfInBounds_toArray, List.set_cons_zero, List.set_cons_succ]
        refine' wpAnyH_take (i := 2) (oi := _) (v := _) ?hi2n1814 (by kernel_rfl) (by kernel_rfl) (by kernel_rfl) ?hQ2n1814 ?hy2n1814 (by assumption) ?rest2n1814
        case hi2n1814 => (simp only [List.getElem?_toArray, List.getElem?_cons_succ, List.getElem?_cons_zero]; rfl)
        case hQ2n1814 => exact fun _ _ _ h => h
        case hy2n1814 => exact Or.inl ⟨by rfl, by (intro w hSw; (try dsimp only at hSw); go_simp; (try with_reducible rfl))⟩
        try simp only [Act.put, List.setIfInBounds_toArray, List.set_cons_zero, List.set_cons_succ]
        refine' wpAnyH_take (i := 3) (oi := _) (v := _) ?hi3n1814 (by kernel_rfl) (by kernel_rfl) (by kernel_rfl) ?hQ3n1814 ?hy3n1814 (by assumption) ?rest3n1814
        case hi3n1814 => (simp only [List.getElem?_toArray, List.getElem?_cons_succ, List.getElem?_cons_zero]; rfl)
        case hQ3n1814 => exact fun _ _ _ h => h
        case hy3n1814 => exact Or.inl ⟨by rfl, by (intro w hSw; (try dsimp only at hSw); go_simp; (try with_reducible rfl))⟩
        try simp only [Act.put, List.setIfInBounds_toArray, List.set_cons_zero, List.set_cons_succ]
        refine' wpAnyH_take (i := 4) (oi := _) (v := _) ?hi4n1814 (by kernel_rfl) (by kernel_rfl) (by kernel_rfl) ?hQ4n1814 ?hy4n1814 (by assumption) ?rest4n1814
        case hi4n1814 => (simp only [List.getElem?_toArray, List.getElem?_cons_succ, List.getElem?_cons_zero]; rfl)
        case hQ4n1814 => exact fun _ _ _ h => h
        case hy4n1814 => exact Or.inl ⟨by rfl, by (intro w hSw; (try dsimp only at hSw); go_simp; (try with_reducible rfl))⟩
        try simp only [Act.put, List.setIfInBounds_toArray, List.set_cons_zero, List.set_cons_succ]
        refine' wpAnyH_take (i := 5) (oi := _) (v := _) ?hi5n1814 (by kernel_rfl) (by kernel_rfl) (by kernel_rfl) ?hQ5n1814 ?hy5n1814 (by assumption) ?rest5n1814
        case hi5n1814 => (simp only [List.getElem?_toArray, List.getElem?_cons_succ, List.getElem?_cons_zero]; rfl)
        case hQ5n1814 => exact fun _ _ _ h => h
        case hy5n1814 => exact Or.inl ⟨by rfl, by (intro w hSw; (try dsimp only at hSw); go_simp; (try with_reducible rfl))⟩
        try simp only [Act.put, List.setIfInBounds_toArray, List.set_cons_zero, List.set_cons_succ]
        refine' wpAnyH_take (i := 6) (oi := _) (v := _) ?hi6n1814 (by kernel_rfl) (by kernel_rfl) (by kernel_rfl) ?hQ6n1814 ?hy6n1814 (by assumption) ?rest6n1814
        case hi6n1814 => (simp only [List.getElem?_toArray, List.getElem?_cons_succ, List.getElem?_cons_zero]; rfl)
        case hQ6n1814 => exact fun _ _ _ h => h
        case hy6n1814 => exact Or.inl ⟨by rfl, by (intro w hSw; (try dsimp only at hSw); go_simp; (try with_reducible rfl))⟩
        try simp only [Act.put, List.setIfInBounds_toArray, List.set_cons_zero, List.set_cons_succ]
        refine' wpAnyH_take (i := 7) (oi := _) (v := _) ?hi7n1814 (by kernel_rfl) (by kernel_rfl) (by kernel_rfl) ?hQ7n1814 ?hy7n1814 (by assumption) ?rest7n1814
        case hi7n1814 => (simp only [List.getElem?_toArray, List.getElem?_cons_succ, List.getElem?_cons_zero]; rfl)
        case hQ7n1814 => exact fun _ _ _ h => h
        case hy7n1814 => exact Or.inl ⟨by rfl, by (intro w hSw; (try dsimp only at hSw); go_simp; (try with_reducible rfl))⟩
        try simp only [Act.put, List.setIfInBounds_toArray, List.set_cons_zero, List.set_cons_succ]
        refine' wpAnyH_take (i := 8) (oi := _) (v := _) ?hi8n1814 (by kernel_rfl) (by kernel_rfl) (by kernel_rfl) ?hQ8n1814 ?hy8n1814 (by assumption) ?rest8n1814
        case hi8n1814 => (simp only [List.getElem?_toArray, List.getElem?_cons_succ, List.getElem?_cons_zero]; rfl)
        case hQ8n1814 => exact fun _ _ _ h => h
        case hy8n1814 => exact Or.inl ⟨by rfl, by (intro w hSw; (try dsimp only at hSw); go_simp; (try with_reducible rfl))⟩
        try simp only [Act.put, List.setIfInBounds_toArray, List.set_cons_zero, List.set_cons_succ]
        refine' wpAnyH_take (i := 9) (oi := _) (v := _) ?hi9n1814 (by kernel_rfl) (by kernel_rfl) (by kernel_rfl) ?hQ9n1814 ?hy9n1814 (by assumption) ?rest9n1814
        case hi9n1814 => (simp only [List.getElem?_toArray, List.getElem?_cons_succ, List.getElem?_cons_zero]; rfl)
        case hQ9n1814 => exact fun _ _ _ h => h
        case hy9n1814 => exact Or.inl ⟨by rfl, by (intro w hSw; (try dsimp only at hSw); go_simp; (try with_reducible rfl))⟩
        try simp only [Act.put, List.setIfInBounds_toArray, List.set_cons_zero, List.set_cons_succ]
        refine' wpAnyH_take (i := 10) (oi := _) (v := _) ?hi10n1814 (by kernel_rfl) (by kernel_rfl) (by kernel_rfl) ?hQ10n1814 ?hy10n1814 (by assumption) ?rest10n1814
        case hi10n1814 => (simp only [List.getElem?_toArray, List.getElem?_cons_succ, List.getElem?_cons_zero]; rfl)
        case hQ10n1814 => exact fun _ _ _ h => h
        case hy10n1814 => exact Or.inl ⟨by rfl, by (intro w hSw; (try dsimp only at hSw); go_simp; (try with_reducible rfl))⟩
        try simp only [Act.put, List.setIfInBounds_toArray, List.set_cons_zero, List.set_cons_succ]
        refine' wpAnyH_take (i := 11) (oi := _) (v := _) ?hi11n1814 (by kernel_rfl) (by kernel_rfl) (by kernel_rfl) ?hQ11n1814 ?hy11n1814 (by assumption) ?rest11n1814
        case hi11n1814 => (simp only [List.getElem?_toArray, List.getElem?_cons_succ, List.getElem?_cons_zero]; rfl)
        case hQ11n1814 => exact fun _ _ _ h => h
        case hy11n1814 => exact Or.inl ⟨by rfl, by (intro w hSw; (try dsimp only at hSw); go_simp; (try with_reducible rfl))⟩
        try simp only [Act.put, List.setIfInBounds_toArray, List.set_cons_zero, List.set_cons_succ]
        refine' wpAnyH_take (i := 12) (oi := _) (v := _) ?hi12n1814 (by kernel_rfl) (by kernel_rfl) (by kernel_rfl) ?hQ12n1814 ?hy12n1814 (by assumption) ?rest12n1814
        case hi12n1814 => (simp only [List.getElem?_toArray, List.getElem?_cons_succ, List.getElem?_cons_zero]; rfl)
        case hQ12n1814 => exact fun _ _ _ h => h
        case hy12n1814 => exact Or.inl ⟨by rfl, by (intro w hSw; (try dsimp only at hSw); go_simp; (try with_reducible rfl))⟩
        try simp only [Act.put, List.setIfInBounds_toArray, List.set_cons_zero, List.set_cons_succ]
        refine' wpAnyH_take (i := 13) (oi := _) (v := _) ?hi13n1814 (by kernel_rfl) (by kernel_rfl) (by kernel_rfl) ?hQ13n1814 ?hy13n1814 (by assumption) ?rest13n1814
        case hi13n1814 => (simp only [List.getElem?_toArray, List.getElem?_cons_succ, List.getElem?_cons_zero]; rfl)
        case hQ13n1814 => exact fun _ _ _ h => h
        case hy13n1814 => exact Or.inl ⟨by rfl, by (intro w hSw; (try dsimp only at hSw); go_simp; (try with_reducible rfl))⟩
        try simp only [Act.put, List.setIfInBounds_toArray, List.set_cons_zero, List.set_cons_succ]
        refine' wpAnyH_take (i := 14) (oi := _) (v := _) ?hi14n1814 (by kernel_rfl) (by kernel_rfl) (by kernel_rfl) ?hQ14n1814 ?hy14n1814 (by assumption) ?rest14n1814
        case hi14n1814 => (simp only [List.getElem?_toArray, List.getElem?_cons_succ, List.getElem?_cons_zero]; rfl)
        case hQ14n1814 => exact fun _ _ _ h => h
        case hy14n1814 => exact Or.inl ⟨by rfl, by (intro w hSw; (try dsimp only at hSw); go_simp; (try with_reducible rfl))⟩
        try simp only [Act.put, List.setIfInBounds_toArray, List.set_cons_zero, List.set_cons_succ]
        obtain ⟨xd21, hxw⟩ : ∃ xd, w20.drew = xd := ⟨_, rfl⟩
        rw [hxw] at hHeld ⊢
        have bd : Below w20.heap.size w20 xd21 := by rw [← hxw]; exact (Below.refl _ _).drew
        clear hxw q0
        replace k3 := k3.below bd k3.1
        replace k7 := k7.below bd k7.1
        replace o1 := own_below o1 bd (own_lt o1)
        replace o2 := own_below o2 bd (own_lt o2)
        replace o3 := own_below o3 bd (own_lt o3)
        replace o11 := own_below o11 bd (own_lt o11)
        have zxd21 := bd.size
        replace bb := bb.trans (bd.mono bb.size)
        clear bd
        refine wpAnyH_ready (rs := [15]) (by kernel_rfl) (by simp) ?_
        refine AllReadyH.cons (by (simp only [List.getElem?_toArray, List.getElem?_cons_succ, List.getElem?_cons_zero]; rfl)) (fun K hK => ?_) AllReadyH.nil
        rw [if_pos (by rfl)]
        go_simp
        refine (sameInts_same _ _ _ _ (Rd.of_own o11) (Rd.of_own o2)).mono ?_
        rintro e w22 ⟨rfl, b22⟩
        replace k3 := k3.below b22 k3.1
        replace k7 := k7.below b22 k7.1
        replace o1 := own_below o1 b22 (own_lt o1)
        replace o2 := own_below o2 b22 (own_lt o2)
        replace o3 := own_below o3 b22 (own_lt o3)
        replace o11 := own_below o11 b22 (own_lt o11)
        have zw22 := b22.size
        replace bb := bb.trans (b22.mono bb.size)
        clear b22
        have q0 := And.intro k3.four (k7.four)
        dsimp only
        refine hK.out _ _ (by first | (dsimp only; exact q0) | exact q0) (fun hHeld => ?_)
        clear q0 hK K
        try simp only [Act.put, List.setIfInBounds_toArray, List.set_cons_zero, List.set_cons_succ]
        refine' wpAnyH_take (i := 16) (oi := _) (v := _) ?hi16n1848 (by kernel_rfl) (by kernel_rfl) (by kernel_rfl) ?hQ16n1848 ?hy16n1848 (by assumption) ?rest16n1848
        case hi16n1848 => (simp only [List.getElem?_toArray, List.getElem?_cons_succ, List.getElem?_cons_zero]; rfl)
        case hQ16n1848 => exact fun _ _ _ h => h
        case hy16n1848 => exact Or.inl ⟨by rfl, by (intro w hSw; (try dsimp only at hSw); go_simp; (try with_reducible rfl))⟩
        try simp only [Act.put, List.setIfInBounds_toArray, List.set_cons_zero, List.set_cons_succ]
        refine' wpAnyH_take (i := 17) (oi := _) (v := _) ?hi17n1848 (by kernel_rfl) (by kernel_rfl) (by kernel_rfl) ?hQ17n1848 ?hy17n1848 (by assumption) ?rest17n1848
        case hi17n1848 => (simp only [List.getElem?_toArray, List.getElem?_cons_succ, List.getElem?_cons_zero]; rfl)
        case hQ17n1848 => exact fun _ _ _ h => h
        case hy17n1848 => exact Or.inl ⟨by rfl, by (intro w hSw; (try dsimp only at hSw); go_simp; (try with_reducible rfl))⟩
        try simp only [Act.put, List.setIfInBounds_toArray, List.set_cons_zero, List.set_cons_succ]
        refine' wpAnyH_take (i := 18) (oi := _) (v := _) ?hi18n1848 (by kernel_rfl) (by kernel_rfl) (by kernel_rfl) ?hQ18n1848 ?hy18n1848 (by assumption) ?rest18n1848
        case hi18n1848 => (simp only [List.getElem?_toArray, List.getElem?_cons_succ, List.getElem?_cons_zero]; rfl)
        case hQ18n1848 => exact fun _ _ _ h => h
        case hy18n1848 => exact Or.inl ⟨by rfl, by (intro w hSw; (try dsimp only at hSw); go_simp; (try with_reducible rfl))⟩
        try simp only [Act.put, List.setIfInBounds_toArray, List.set_cons_zero, List.set_cons_succ]
        refine' wpAnyH_take (i := 19) (oi := _) (v := _) ?hi19n1848 (by kernel_rfl) (by kernel_rfl) (by kernel_rfl) ?hQ19n1848 ?hy19n1848 (by assumption) ?rest19n1848
        case hi19n1848 => (simp only [List.getElem?_toArray, List.getElem?_cons_succ, List.getElem?_cons_zero]; rfl)
        case hQ19n1848 => exact fun _ _ _ h => h
        case hy19n1848 => exact Or.inl ⟨by rfl, by (intro w hSw; (try dsimp only at hSw); go_simp; (try with_reducible rfl))⟩
        try simp only [Act.put, List.setIfInBounds_toArray, List.set_cons_zero, List.set_cons_succ]
        refine' wpAnyH_take (i := 21) (oi := _) (v := _) ?hi21n1848 (by kernel_rfl) (by kernel_rfl) (by kernel_rfl) ?hQ21n1848 ?hy21n1848 (by assumption) ?rest21n1848
        case hi21n1848 => (simp only [List.getElem?_toArray, List.getElem?_cons_succ, List.getElem?_cons_zero]; rfl)
        case hQ21n1848 => exact fun _ _ _ h => h
        case hy21n1848 => exact Or.inl ⟨by rfl, by (intro w hSw; (try dsimp only at hSw); go_simp; (try with_reducible rfl))⟩
        try simp only [Act.put, List.setIfInBounds_toArray, List.set_cons_zero, List.set_cons_succ]
        refine' wpAnyH_take (i := 24) (oi := _) (v := _) ?hi24n1848 (by kernel_rfl) (by kernel_rfl) (by kernel_rfl) ?hQ24n1848 ?hy24n1848 (by assumption) ?rest24n1848
        case hi24n1848 => (simp only [List.getElem?_toArray, List.getElem?_cons_succ, List.getElem?_cons_zero]; rfl)
        case hQ24n1848 => exact fun _ _ _ h => h
        case hy24n1848 => exact Or.inl ⟨by rfl, by (intro w hSw; (try dsimp only at hSw); go_simp; (try with_reducible rfl))⟩
        try simp only [Act.put, List.setIfInBounds_toArray, List.set_cons_zero, List.set_cons_succ]
        refine' wpAnyH_take (i := 25) (oi := _) (v := _) ?hi25n1848 (by kernel_rfl) (by kernel_rfl) (by kernel_rfl) ?hQ25n1848 ?hy25n1848 (by assumption) ?rest25n1848
        case hi25n1848 => (simp only [List.getElem?_toArray, List.getElem?_cons_succ, List.getElem?_cons_zero]; rfl)
        case hQ25n1848 => exact fun _ _ _ h => h
        case hy25n1848 => exact Or.inl ⟨by rfl, by (intro w hSw; (try dsimp only at hSw); go_simp; (try with_reducible rfl))⟩
        try simp only [Act.put, List.setIfInBounds_toArray, List.set_cons_zero, List.set_cons_succ]
        refine wpAnyH_ready (rs := [20]) (by kernel_rfl) (by simp) ?_
        refine AllReadyH.cons (by (simp only [List.getElem?_toArray, List.getElem?_cons_succ, List.getElem?_cons_zero]; rfl)) (fun K hK => ?_) AllReadyH.nil
        rw [if_pos (by rfl)]
        go_simp
        refine (M3'.out _ _ _ (Rd.of_own o3)).mono ?_
        rintro e w23 ⟨rfl, b23⟩
        replace k3 := k3.below b23 k3.1
        replace k7 := k7.below b23 k7.1
        replace o1 := own_below o1 b23 (own_lt o1)
        replace o2 := own_below o2 b23 (own_lt o2)
        replace o3 := own_below o3 b23 (own_lt o3)
        replace o11 := own_below o11 b23 (own_lt o11)
        have zw23 := b23.size
        replace bb := bb.trans (b23.mono bb.size)
        clear b23
        have q0 := And.intro k3.four (k7.four)
        dsimp only
        refine hK.out _ _ (by first | (dsimp only; exact q0) | exact q0) (fun hHeld => ?_)
        clear q0 hK K
        try simp only [Act.put, List.setIfInBounds_toArray, List.set_cons_zero, List.set_cons_succ]
        refine wpAnyH_ready (rs := [22]) (by kernel_rfl) (by simp) ?_
        refine AllReadyH.cons (by (simp only [List.getElem?_toArray, List.getElem?_cons_succ, List.getElem?_cons_zero]; rfl)) (fun K hK => ?_) AllReadyH.nil
        rw [if_pos (by rfl)]
        go_simp
        refine (M1'.out _ _ _ (Rd.of_own o1)).mono ?_
        rintro e w24 ⟨rfl, b24⟩
        replace k3 := k3.below b24 k3.1
        replace k7 := k7.below b24 k7.1
        replace o1 := own_below o1 b24 (own_lt o1)
        replace o2 := own_below o2 b24 (own_lt o2)
        replace o3 := own_below o3 b24 (own_lt o3)
        replace o11 := own_below o11 b24 (own_lt o11)
        have zw24 := b24.size
        replace bb := bb.trans (b24.mono bb.size)
        clear b24
        have q0 := And.intro k3.four (k7.four)
        dsimp only
        refine hK.out _ _ (by first | (dsimp only; exact q0) | exact q0) (fun hHeld => ?_)
        clear q0 hK K
        try simp only [Act.put, List.setIfInBounds_toArray, List.set_cons_zero, List.set_cons_succ]
        refine' wpAnyH_take (i := 23) (oi := _) (v := _) ?hi23n1889 (by kernel_rfl) (by kernel_rfl) (by kernel_rfl) ?hQ23n1889 ?hy23n1889 (by assumption) ?rest23n1889
        case hi23n1889 => (simp only [List.getElem?_toArray, List.getElem?_cons_succ, List.getElem?_cons_zero]; rfl)
        case hQ23n1889 => exact fun _ _ _ h => h
        case hy23n1889 => exact Or.inl ⟨by rfl, by (intro w hSw; (try dsimp only at hSw); go_simp; (try with_reducible rfl))⟩
        try simp only [Act.put, List.setIfInBounds_toArray, List.set_cons_zero, List.set_cons_succ]
        refine' wpAnyH_take (i := 26) (oi := _) (v := _) ?hi26n1889 (by kernel_rfl) (by kernel_rfl) (by kernel_rfl) ?hQ26n1889 ?hy26n1889 (by assumption) ?rest26n1889
        case hi26n1889 => (simp only [List.getElem?_toArray, List.getElem?_cons_succ, List.getElem?_cons_zero]; rfl)
        case hQ26n1889 => exact fun _ _ _ h => h
        case hy26n1889 => exact Or.inl ⟨by rfl, by (intro w hSw; (try dsimp only at hSw); go_simp; (try with_reducible rfl))⟩
        try simp only [Act.put, List.setIfInBounds_toArray, List.set_cons_zero, List.set_cons_succ]
        refine' wpAnyH_take (i := 27) (oi := _) (v := _) ?hi27n1889 (by kernel_rfl) (by kernel_rfl) (by kernel_rfl) ?hQ27n1889 ?hy27n1889 (by assumption) ?rest27n1889
        case hi27n1889 => (simp only [List.getElem?_toArray, List.getElem?_cons_succ, List.getElem?_cons_zero]; rfl)
        case hQ27n1889 => exact fun _ _ _ h => h
        case hy27n1889 => exact Or.inl ⟨by rfl, by (intro w hSw; (try dsimp only at hSw); go_simp; (try with_reducible rfl))⟩
        try simp only [Act.put, List.setIfInBounds_toArray, List.set_cons_zero, List.set_cons_succ]
        refine' wpAnyH_take (i := 28) (oi := _) (v := _) ?hi28n1889 (by kernel_rfl) (by kernel_rfl) (by kernel_rfl) ?hQ28n1889 ?hy28n1889 (by assumption) ?rest28n1889
        case hi28n1889 => (simp only [List.getElem?_toArray, List.getElem?_cons_succ, List.getElem?_cons_zero]; rfl)
        case hQ28n1889 => exact fun _ _ _ h => h
        case hy28n1889 => exact Or.inl ⟨by rfl, by (intro w hSw; (try dsimp only at hSw); go_simp; (try with_reducible rfl))⟩
        try simp only [Act.put, List.setIfInBounds_toArray, List.set_cons_zero, List.set_cons_succ]
        refine wpAnyH_done (by kernel_rfl) ?_ _
        clear hHeld
        clear lo11 mo11
        clear lo2 mo2
        clear o11 o2
        clear hff htt hmm hw1 hw2
        have ck3 := k3.2.1
        have yk3 := k3.1
        go_wp2_with fail
        clear ck3 yk3
        have K3 := Lib.hid k3
        have K7 := Lib.hid k7
        have OA := Lib.hid (Rd.of_own o1)
        have OB := Lib.hid (Rd.of_own o3)
        have BB := Lib.hid bb
        clear k3 k7 o1 o3 bb
        go_loopw [33] (fun i wr => ∃ k : Nat, b' ≤ k ∧ k ≤ n' ∧ i = .int .i64 k ∧ Still w24 wr) (fun i _ => n' - (intOf i).toNat)
        case atStart => exact ⟨b', Nat.le_refl _, hbn, rfl, Still.refl _⟩
        case round =>
          obtain ⟨k, hk0, hk1, rfl, hst⟩ := hrel
          have hbd := hst.below w24.heap.size
          have kk3 := K3.out.below hbd K3.out.1
          have kk7 := K7.out.below hbd K7.out.1
          have ck3 := kk3.2.1
          have yk3 := kk3.1
          have ck7 := kk7.2.1
          have yk7 := kk7.1
          by_cases hlt : k < n'
          · have hlow := LOW.out k hlt
            have hql := HQL.out
            rcases OA.out.below' hbd with ⟨h', _⟩ | ⟨b1, off1, cp1, hv1, _, hbs1, _, hc1⟩
            · rw [h'] at hnl; simp at hnl; omega
            rcases OB.out.below' hbd with ⟨h', _⟩ | ⟨b2, off2, cp2, hv2, _, hbs2, _, hc2⟩
            · rw [h'] at hql; simp at hql; omega
            cases hv1
            cases hv2
            have c1 := hc1 k (by omega)
            have c2 := hc2 k (by omega)
            rw [hlow] at c2
            obtain ⟨y, hye⟩ : ∃ y, ws.getD k 0 = y := ⟨_, rfl⟩
            rw [hye] at c1 c2
            have hl1 : (k : Int) < (ws.length : Int) := by omega
            have hl2 : (k : Int) < (qs.length : Int) := by omega
            have hl3 : (k : Int) < (n' : Int) := by omega
            have hyy : (y != y) = false := by simp
            have HST := Lib.hid hst
            clear hql
            clear hc1 hc2 hlow hye kk3 kk7 hbd hst
            go_wp2_with fail
            go_quiet (fail)
            have HS2 := Lib.hid (HST.out.trans ⟨nq, rfl⟩)
            go_wp2
            go_roundw
            case rel => exact ⟨k + 1, by omega, hlt, by go_num, HS2.out⟩
            case measure => simp [intOf]; omega
          · have hl3 : ¬ (k : Int) < (n' : Int) := by omega
            have BW := Lib.hid (BB.out.trans (hbd.mono BB.out.size))
            have OW := Lib.hid (OB.out.below' hbd)
            clear kk3 kk7 hbd hst
            go_wp2_with fail
            refine (O3'.out _ _ _ OW.out).mono ?_
            rintro e w9 ⟨rfl, b9⟩
            have BX := Lib.hid (BW.out.trans (b9.mono BW.out.size))
            clear b9
            go_wp2
            go_ret
            exact ⟨rfl, BX.out⟩

set_option maxRecDepth 100000 in
theorem lifted (os : Os) (started : os.Started) (H : Type) (enc : TypeId × Value → H) :
    ReturnsInHanded {} Try.checked os 3 .any (Rows.fnHeapSpec.pre6 enc Try.prog Try.f3 Rows.fnHeapRow.domain false) (Rows.fnHeapSpec.post enc Try.prog Try.f3 false true false false) := by
  refine returnsInHanded_of_change (C := Try.checked) own started (by kernel_rfl) Try.func3
    (ChangeSpec.witness6 (enc := enc) (C := Try.checked) false ⟨#[], #[.slice none 0 0], []⟩ 8 (by kernel_rfl) (by kernel_rfl) (by kernel_rfl) (by kernel_rfl)) ?_
  intro W base args ds gs before hval0 hW hcnd _
  have hval : ∀ (j : Nat) t v, Try.f3.params[j]? = some t → args[j]? = some v → Value.okWide Try.prog W .any base t v := hval0
  have hW' := hW
  obtain ⟨p, q, hA0, hV, rfl, hfz, hnd⟩ := hW
  have hA : DataW.TrodAll enc Try.prog W 0 (fun _ => true) true Try.f3.params.toList args.toList ds p := hA0
  rw [Try.params3] at hA hval
  obtain ⟨v0, vs0, d0, ds0, p0, q0, hargs, rfl, rfl, h0, t0⟩ := trodAll_cons hA
  obtain ⟨rfl, rfl, rfl⟩ := trodAll_nil t0
  obtain rfl : args = #[v0] := by cases args; simp_all
  obtain ⟨rfl, rfl⟩ := trodVars_none hV
  have k0 := h0
  have lt0 : ∀ x ∈ p0, x.block < W.heap.size := by obtain ⟨m, hm⟩ := k0; exact DataW.trod_lt m _ _ _ hm
  obtain ⟨s0, l0, c0, rfl⟩ := okWide_slice Try.underlying22 (hval 0 22 v0 rfl rfl)
  obtain ⟨g0, hf0⟩ := h0
  obtain ⟨z0, r0, i0⟩ := bytes_rd Try.underlying22 Try.underlying5 (by kernel_rfl) (by simpa [Value.cells] using hf0)
  clear hA0 hval0
  refine (walk W _ z0 r0 i0).mono fun e W' ⟨he, bel⟩ => ?_
  subst he
  exact ⟨_, rfl, _, _, _, [], _, [], hW', trodAll_mk1 (shut_bool Try.underlying4 _), (trodAll_cons_mk (Below.trod laidOut (by kernel_rfl) (of_decide_eq_true (by kernel_rfl)) k0 bel lt0) trodAll_mk0), rfl, bel.frame _, fun h => by cases h⟩

theorem over : Rows.fnHeapRow.holds Try.pinned (OpenSpec.ofChange Rows.fnHeapSpec) :=
  OpenClaim.holds_of_wide 3 Try.f3 rfl rfl rfl rfl rfl rfl rfl ⟨rfl, rfl, rfl, rfl, rfl⟩ rfl rfl rfl rfl rfl (by kernel_rfl) Try.func3 (by kernel_rfl)
    (of_decide_eq_true (by kernel_rfl)) (by unfold Func.isWrapper; first | (rw [if_pos (by decide +kernel)]; kernel_rfl) | (rw [if_neg (by decide +kernel)]; exact ⟨rfl, rfl⟩))
    (fun os started H enc _ => lifted os started H enc)

theorem proved : Rows.FnHeapSaid := over
end Go.Proofs.Ytmcoidnonmmpjaa.fnHeap
