/- The law FnMoved returns true for every input that can be read as data, with no condition, and its arguments read as they did. -/
import Derived.Test.YtmcoidnonmmpjaaRows
import Derived.Test.YtmcoidnonmmpjaaMgOpen
import Derived.Test.YtmcoidnonmmpjaaMgDrawH
import Derived.Test.YtmcoidnonmmpjaaMgDraw
import Derived.Test.YtmcoidnonmmpjaaMgMovedL
import Derived.Test.YtmcoidnonmmpjaaMgShapeI
import Derived.Test.YtmcoidnonmmpjaaMgCollT
import Derived.Test.YtmcoidnonmmpjaaHeapOk
import Derived.Test.YtmcoidnonmmpjaaRoom
import Derived.Test.YtmcoidnonmmpjaaTold
namespace Go.Proofs.Ytmcoidnonmmpjaa.fnMoved
open Go.ChangeShapes Go.WideShapes Go.ChangeAt Go.RowKit
open Go.ChangeMaps (open_string shut_string)
set_option linter.unusedVariables false

theorem own : ownKnob Try.prog.godebug = none := by kernel_rfl
theorem laidOut : laidOutB Try.prog = true := by kernel_rfl

set_option maxHeartbeats 8000000 in
set_option maxRecDepth 100000 in
theorem walk (w : World) (u0 : Value) (z0 : List Int) (r0 : Rd w.heap.size .u8 w u0 z0) (i0 : bytesIn' z0) :
    Calls Try.prog 4 #[u0] w fun e w' => e = .returned (.bool true) ∧ Below w.heap.size w w' := by
  by_cases hbig : 1048576 < z0.length
  · have HB := Lib.hid (big_any u0 z0 w r0)
    rw [decide_eq_true hbig] at HB
    obtain ⟨a0, c0, rfl⟩ := r0.form
    clear r0 i0
    go_enter Try.func4, Try.ntmps4
    go_wp2_with fail
    refine HB.out.mono ?_
    rintro e w1 ⟨rfl, rfl⟩
    go_wp2
    go_ret
    exact ⟨rfl, Below.refl _ _⟩
  · have HB := Lib.hid (big_any u0 z0 w r0)
    rw [decide_eq_false hbig] at HB
    have HR := Lib.hid (fun (W : World) (hb : Below w.heap.size w W) => r0.below' hb)
    have H1 := Lib.hid (fun (W : World) (hb : Below w.heap.size w W) => DrawCollect_any u0 z0 W (HR.out _ hb) i0 (by omega))
    have H2 := Lib.hid (fun (W : World) (hb : Below w.heap.size w W) => DrawReach_any u0 z0 W (HR.out _ hb) i0 (by omega))
    have H3 := Lib.hid (fun (W : World) (hb : Below w.heap.size w W) => DrawShape_any u0 z0 W (HR.out _ hb) i0 (by omega))
    obtain ⟨a0, c0, rfl⟩ := r0.form
    clear r0 i0
    have bb := Below.refl w.heap.size w
    go_enter Try.func4, Try.ntmps4
    go_wp2_with fail
    refine HB.out.mono ?_
    rintro e w1 ⟨rfl, rfl⟩
    clear HB hbig
    go_wp2_with fail
    refine (H1.out _ bb).mono ?_
    rintro e w1 ⟨⟨v1, ws, h, b, n, vr, rs, rfl, ⟨o1, hin⟩, ⟨o2, rin, rle⟩⟩, b1⟩
    have lo1 : ∀ k, v1.ownBlock = some k → w.heap.size ≤ k := fun k hk => (o1.lt k hk).1
    have mo1 := own_lt o1
    have lo2 : ∀ k, vr.ownBlock = some k → w.heap.size ≤ k := fun k hk => (o2.lt k hk).1
    have mo2 := own_lt o2
    have zw1 := b1.size
    replace bb := bb.trans (b1.mono bb.size)
    clear b1
    obtain ⟨ao1, do1, rfl⟩ := own_form o1
    obtain ⟨ao2, do2, rfl⟩ := own_form o2
    have hwl := hin.le
    have hPi := hin.coll rin
    have hC1 := fun (B : Nat) (v vq : Value) (W : World) (hr : Rd B .i64 W v ws) (hk : Rd B .i64 W vq rs) => iCollect_any v vq ws rs h b n W hr hin.ok (by omega) hk (by omega) hin.h hin.b hin.n
    have hC2 := fun (B : Nat) (v vq : Value) (W : World) (hr : Rd B .i64 W v ws) (hk : Rd B .i64 W vq rs) => sCollect_any v vq ws rs h b n W hr hin.ok (by omega) hk (by omega) hin.h hin.b hin.n
    have hS1 := fun (B : Nat) (v vq : Value) (W : World) (hr : Rd B .i64 W v ws) (hk : Rd B .i64 W vq rs) => iShape_any v vq ws rs h b n W hr hin.ok (by omega) hk (by omega) hin.h hin.b hin.n
    have hR1 := fun (B : Nat) (v vq : Value) (W : World) (hr : Rd B .i64 W v ws) (hk : Rd B .i64 W vq rs) => iReach_any v vq ws rs h b n W hr hin.ok (by omega) hk (by omega) hin.h hin.b hin.n
    have hM1 := fun (B : Nat) (v : Value) (W : World) (hr : Rd B .i64 W v ws) => iRoom_any v ws h b n W hr hin.ok (by omega) hin.h hin.b hin.n
    have hB1 := fun (B : Nat) (v : Value) (W : World) (hr : Rd B .i64 W v ws) (p : Int) (q : Nat) (hq : blockOf ws h b n p = some q) => iBlockAt_in v ws h b n p q W hr hin.ok (by omega) hin.h hin.b hin.n hq
    obtain ⟨⟨ts, tb, tn, qs⟩, hP⟩ : ∃ P, collectOf ws h b n rs = P := ⟨_, rfl⟩
    rw [hP] at hC1 hC2 hPi
    dsimp only [CollTold] at hC1 hC2
    dsimp only at hPi
    obtain ⟨tin, -, qin, hql⟩ := hPi
    have htl := tin.le
    have hqq : qs.length ≤ 300 := by omega
    clear hql
    have hPj := tin.coll qin
    have hC3 := fun (B : Nat) (v vq : Value) (W : World) (hr : Rd B .i64 W v ts) (hk : Rd B .i64 W vq qs) => iCollect_any v vq ts qs h tb tn W hr tin.ok (by omega) hk (by omega) tin.h tin.b tin.n
    have hO3 := fun (B : Nat) (v : Value) (W : World) (hr : Rd B .i64 W v ts) => iHeapOk_any v ts h tb tn W hr tin.ok (by omega) tin.h tin.b tin.n
    have hS3 := fun (B : Nat) (v vq : Value) (W : World) (hr : Rd B .i64 W v ts) (hk : Rd B .i64 W vq qs) => iShape_any v vq ts qs h tb tn W hr tin.ok (by omega) hk (by omega) tin.h tin.b tin.n
    have hM3 := fun (B : Nat) (v : Value) (W : World) (hr : Rd B .i64 W v ts) => iRoom_any v ts h tb tn W hr tin.ok (by omega) tin.h tin.b tin.n
    obtain ⟨⟨ts2, tb2, tn2, qs2⟩, hPP⟩ : ∃ P, collectOf ts h tb tn qs = P := ⟨_, rfl⟩
    rw [hPP] at hC3 hPj
    dsimp only [CollTold] at hC3
    dsimp only at hPj
    obtain ⟨t2in, -, q2in, hql2⟩ := hPj
    have htl2 := t2in.le
    have hqq2 : qs2.length ≤ 300 := by omega
    clear hql2
    have hS4 := fun (B : Nat) (v vq : Value) (W : World) (hr : Rd B .i64 W v ts2) (hk : Rd B .i64 W vq qs2) => iShape_any v vq ts2 qs2 h tb2 tn2 W hr t2in.ok (by omega) hk (by omega) t2in.h t2in.b t2in.n
    have HC := Lib.hid (moved_cases hP hPP)
    obtain ⟨sh, hsh⟩ : ∃ s, shapeOf ws h b n rs = s := ⟨_, rfl⟩
    obtain ⟨l, hl⟩ : ∃ s, reachOf ws h b n rs = s := ⟨_, rfl⟩
    have hll := reach_len ws h b n rs
    rw [hl] at hll hR1
    rw [hsh] at hS1
    have C1 := Lib.hid hC1
    have C2 := Lib.hid hC2
    have C3 := Lib.hid hC3
    have S1 := Lib.hid hS1
    have R1 := Lib.hid hR1
    have M1 := Lib.hid hM1
    have B1 := Lib.hid hB1
    have O3 := Lib.hid hO3
    have S3 := Lib.hid hS3
    have M3 := Lib.hid hM3
    have S4 := Lib.hid hS4
    have HSH := Lib.hid hsh
    have HL := Lib.hid hl
    have HLL := Lib.hid hll
    clear hC1 hC2 hC3 hS1 hR1 hM1 hB1 hO3 hS3 hM3 hS4 hsh hl hll
    have IT := Lib.hid (And.intro tin.b tin.n)
    have IT2 := Lib.hid (And.intro t2in.b t2in.n)
    have IH := Lib.hid (And.intro hin.b hin.n)
    clear hP hPP hin tin t2in rin qin q2in hwl htl htl2 hqq hqq2 rle
    go_wp2_with fail
    generalize hx : w1.alloc _ = xk3
    obtain ⟨bx, k3⟩ := Bx.alloc hx
    clear hx
    replace o1 := own_below o1 bx (own_lt o1)
    replace o2 := own_below o2 bx (own_lt o2)
    have zxk3 := bx.size
    replace bb := bb.trans (bx.mono bb.size)
    clear bx
    have uk3 := k3.1
    have ck3 := k3.2.1
    have yk3 := k3.1
    go_wp2_with fail
    clear ck3 yk3
    refine (C1.out _ _ _ _ (Rd.of_own o1) (Rd.of_own o2)).mono ?_
    rintro e w2 ⟨⟨v3, vq3, rfl, o3, o4, -⟩, b2⟩
    have lo3 : ∀ k, v3.ownBlock = some k → xk3.heap.size ≤ k := fun k hk => (o3.lt k hk).1
    have mo3 := own_lt o3
    have lo4 : ∀ k, vq3.ownBlock = some k → xk3.heap.size ≤ k := fun k hk => (o4.lt k hk).1
    have mo4 := own_lt o4
    replace k3 := k3.below b2 k3.1
    replace o1 := own_below o1 b2 (own_lt o1)
    replace o2 := own_below o2 b2 (own_lt o2)
    have zw2 := b2.size
    replace bb := bb.trans (b2.mono bb.size)
    clear b2
    obtain ⟨ao3, do3, rfl⟩ := own_form o3
    obtain ⟨ao4, do4, rfl⟩ := own_form o4
    have ck3 := k3.2.1
    have yk3 := k3.1
    go_wp2_with fail
    clear ck3 yk3
    generalize hx : w2.alloc _ = xk5
    obtain ⟨bx, k5⟩ := Bx.alloc hx
    clear hx
    replace k3 := k3.below bx k3.1
    replace o1 := own_below o1 bx (own_lt o1)
    replace o2 := own_below o2 bx (own_lt o2)
    replace o3 := own_below o3 bx (own_lt o3)
    replace o4 := own_below o4 bx (own_lt o4)
    have zxk5 := bx.size
    replace bb := bb.trans (bx.mono bb.size)
    clear bx
    have uk5 := k5.1
    refine (C2.out _ _ _ _ (Rd.of_own o1) (Rd.of_own o2)).mono ?_
    rintro e w3 ⟨⟨v5, vq5, rfl, o5, o6, -⟩, b3⟩
    have lo5 : ∀ k, v5.ownBlock = some k → xk5.heap.size ≤ k := fun k hk => (o5.lt k hk).1
    have mo5 := own_lt o5
    have lo6 : ∀ k, vq5.ownBlock = some k → xk5.heap.size ≤ k := fun k hk => (o6.lt k hk).1
    have mo6 := own_lt o6
    replace k3 := k3.below b3 k3.1
    replace k5 := k5.below b3 k5.1
    replace o1 := own_below o1 b3 (own_lt o1)
    replace o2 := own_below o2 b3 (own_lt o2)
    replace o3 := own_below o3 b3 (own_lt o3)
    replace o4 := own_below o4 b3 (own_lt o4)
    have zw3 := b3.size
    replace bb := bb.trans (b3.mono bb.size)
    clear b3
    obtain ⟨ao5, do5, rfl⟩ := own_form o5
    obtain ⟨ao6, do6, rfl⟩ := own_form o6
    have ck5 := k5.2.1
    have yk5 := k5.1
    go_wp2_with fail
    clear ck5 yk5
    generalize hx : w3.alloc _ = xk7
    obtain ⟨bx, k7⟩ := Bx.alloc hx
    clear hx
    replace k3 := k3.below bx k3.1
    replace k5 := k5.below bx k5.1
    replace o1 := own_below o1 bx (own_lt o1)
    replace o2 := own_below o2 bx (own_lt o2)
    replace o3 := own_below o3 bx (own_lt o3)
    replace o4 := own_below o4 bx (own_lt o4)
    replace o5 := own_below o5 bx (own_lt o5)
    replace o6 := own_below o6 bx (own_lt o6)
    have zxk7 := bx.size
    replace bb := bb.trans (bx.mono bb.size)
    clear bx
    have uk7 := k7.1
    have ck5 := k5.2.1
    have yk5 := k5.1
    have ck7 := k7.2.1
    have yk7 := k7.1
    go_wp2_with fail
    clear ck5 yk5 ck7 yk7
    refine (sameHeap_same _ _ _ _ _ _ _ (Rd.of_own o3) (Rd.of_own o5)).mono ?_
    rintro e w4 ⟨rfl, b4⟩
    replace k3 := k3.below b4 k3.1
    replace k5 := k5.below b4 k5.1
    replace k7 := k7.below b4 k7.1
    replace o1 := own_below o1 b4 (own_lt o1)
    replace o2 := own_below o2 b4 (own_lt o2)
    replace o3 := own_below o3 b4 (own_lt o3)
    replace o4 := own_below o4 b4 (own_lt o4)
    replace o5 := own_below o5 b4 (own_lt o5)
    replace o6 := own_below o6 b4 (own_lt o6)
    have zw4 := b4.size
    replace bb := bb.trans (b4.mono bb.size)
    clear b4
    go_wp2_with fail
    refine (sameInts_same _ _ _ _ (Rd.of_own o4) (Rd.of_own o6)).mono ?_
    rintro e w5 ⟨rfl, b5⟩
    replace k3 := k3.below b5 k3.1
    replace k5 := k5.below b5 k5.1
    replace k7 := k7.below b5 k7.1
    replace o1 := own_below o1 b5 (own_lt o1)
    replace o2 := own_below o2 b5 (own_lt o2)
    replace o3 := own_below o3 b5 (own_lt o3)
    replace o4 := own_below o4 b5 (own_lt o4)
    replace o5 := own_below o5 b5 (own_lt o5)
    replace o6 := own_below o6 b5 (own_lt o6)
    have zw5 := b5.size
    replace bb := bb.trans (b5.mono bb.size)
    clear b5
    clear lo5 mo5
    clear lo6 mo6
    clear o5 o6 k7
    go_wp2_with fail
    refine (H2.out _ bb).mono ?_
    rintro e w6 ⟨⟨v7, xs, xh, xb, xn, vx, xr, rfl, ⟨o7, xin⟩, ⟨o8, xrin, xle⟩⟩, b6⟩
    have lo7 : ∀ k, v7.ownBlock = some k → w5.heap.size ≤ k := fun k hk => (o7.lt k hk).1
    have mo7 := own_lt o7
    have lo8 : ∀ k, vx.ownBlock = some k → w5.heap.size ≤ k := fun k hk => (o8.lt k hk).1
    have mo8 := own_lt o8
    replace k3 := k3.below b6 k3.1
    replace k5 := k5.below b6 k5.1
    replace o1 := own_below o1 b6 (own_lt o1)
    replace o2 := own_below o2 b6 (own_lt o2)
    replace o3 := own_below o3 b6 (own_lt o3)
    replace o4 := own_below o4 b6 (own_lt o4)
    have zw6 := b6.size
    replace bb := bb.trans (b6.mono bb.size)
    clear b6
    obtain ⟨ao7, do7, rfl⟩ := own_form o7
    obtain ⟨ao8, do8, rfl⟩ := own_form o8
    have hwl := xin.le
    have hX1 := fun (B : Nat) (v vq : Value) (W : World) (hr : Rd B .i64 W v xs) (hk : Rd B .i64 W vq xr) => iReach_any v vq xs xr xh xb xn W hr xin.ok (by omega) hk (by omega) xin.h xin.b xin.n
    have hX2 := fun (B : Nat) (v vq : Value) (W : World) (hr : Rd B .i64 W v xs) (hk : Rd B .i64 W vq xr) => sReach_any v vq xs xr xh xb xn W hr xin.ok (by omega) hk (by omega) xin.h xin.b xin.n
    obtain ⟨lx, hlx⟩ : ∃ s, reachOf xs xh xb xn xr = s := ⟨_, rfl⟩
    rw [hlx] at hX1 hX2
    have X1 := Lib.hid hX1
    have X2 := Lib.hid hX2
    clear hX1 hX2
    clear hlx xin xrin xle hwl
    go_wp2_with fail
    generalize hx : w6.alloc _ = xk9
    obtain ⟨bx, k9⟩ := Bx.alloc hx
    clear hx
    replace k3 := k3.below bx k3.1
    replace k5 := k5.below bx k5.1
    replace o1 := own_below o1 bx (own_lt o1)
    replace o2 := own_below o2 bx (own_lt o2)
    replace o3 := own_below o3 bx (own_lt o3)
    replace o4 := own_below o4 bx (own_lt o4)
    replace o7 := own_below o7 bx (own_lt o7)
    replace o8 := own_below o8 bx (own_lt o8)
    have zxk9 := bx.size
    replace bb := bb.trans (bx.mono bb.size)
    clear bx
    have uk9 := k9.1
    refine (H3.out _ bb).mono ?_
    rintro e w7 ⟨⟨v9, ys, yh, yb, yn, vy, yr, rfl, ⟨o9, yin⟩, ⟨o10, yrin, yle⟩⟩, b7⟩
    have lo9 : ∀ k, v9.ownBlock = some k → xk9.heap.size ≤ k := fun k hk => (o9.lt k hk).1
    have mo9 := own_lt o9
    have lo10 : ∀ k, vy.ownBlock = some k → xk9.heap.size ≤ k := fun k hk => (o10.lt k hk).1
    have mo10 := own_lt o10
    replace k3 := k3.below b7 k3.1
    replace k5 := k5.below b7 k5.1
    replace k9 := k9.below b7 k9.1
    replace o1 := own_below o1 b7 (own_lt o1)
    replace o2 := own_below o2 b7 (own_lt o2)
    replace o3 := own_below o3 b7 (own_lt o3)
    replace o4 := own_below o4 b7 (own_lt o4)
    replace o7 := own_below o7 b7 (own_lt o7)
    replace o8 := own_below o8 b7 (own_lt o8)
    have zw7 := b7.size
    replace bb := bb.trans (b7.mono bb.size)
    clear b7
    obtain ⟨ao9, do9, rfl⟩ := own_form o9
    obtain ⟨ao10, do10, rfl⟩ := own_form o10
    have hwl := yin.le
    have hY1 := fun (B : Nat) (v vq : Value) (W : World) (hr : Rd B .i64 W v ys) (hk : Rd B .i64 W vq yr) => iShape_any v vq ys yr yh yb yn W hr yin.ok (by omega) hk (by omega) yin.h yin.b yin.n
    have hY2 := fun (B : Nat) (v vq : Value) (W : World) (hr : Rd B .i64 W v ys) (hk : Rd B .i64 W vq yr) => sShape_any v vq ys yr yh yb yn W hr yin.ok (by omega) hk (by omega) yin.h yin.b yin.n
    obtain ⟨sy, hsy⟩ : ∃ s, shapeOf ys yh yb yn yr = s := ⟨_, rfl⟩
    rw [hsy] at hY1 hY2
    have Y1 := Lib.hid hY1
    have Y2 := Lib.hid hY2
    clear hY1 hY2
    clear hsy yin yrin yle hwl
    have hyy := ba_bne sy
    go_upto_region 10 with fail
    generalize hx : w7.alloc _ = xk11
    obtain ⟨bx, k11⟩ := Bx.alloc hx
    clear hx
    replace k3 := k3.below bx k3.1
    replace k5 := k5.below bx k5.1
    replace k9 := k9.below bx k9.1
    replace o1 := own_below o1 bx (own_lt o1)
    replace o2 := own_below o2 bx (own_lt o2)
    replace o3 := own_below o3 bx (own_lt o3)
    replace o4 := own_below o4 bx (own_lt o4)
    replace o7 := own_below o7 bx (own_lt o7)
    replace o8 := own_below o8 bx (own_lt o8)
    replace o9 := own_below o9 bx (own_lt o9)
    replace o10 := own_below o10 bx (own_lt o10)
    have zxk11 := bx.size
    replace bb := bb.trans (bx.mono bb.size)
    clear bx
    have uk11 := k11.1
    have q0 := And.intro k9.four (k11.four)
    refine wp_region_held_drew (S := (fun w' => (w'.cell? ⟨w6.heap.size, 0, none⟩ = some (.slice ao7 xs.length do7) ∧ w'.cell? ⟨w6.heap.size, 1, none⟩ = some (.int .i64 xh) ∧ w'.cell? ⟨w6.heap.size, 2, none⟩ = some (.int .i64 xb) ∧ w'.cell? ⟨w6.heap.size, 3, none⟩ = some (.int .i64 xn)) ∧ (w'.cell? ⟨w7.heap.size, 0, none⟩ = some (.slice ao9 ys.length do9) ∧ w'.cell? ⟨w7.heap.size, 1, none⟩ = some (.int .i64 yh) ∧ w'.cell? ⟨w7.heap.size, 2, none⟩ = some (.int .i64 yb) ∧ w'.cell? ⟨w7.heap.size, 3, none⟩ = some (.int .i64 yn)))) (by kernel_rfl) (by first | (dsimp only; exact q0) | (exact q0)) (fun hHeld => ?_)
    refine' wpAnyH_take (i := 0) (oi := _) (v := _) ?hi0n334 (by kernel_rfl) (by kernel_rfl) (by kernel_rfl) ?hQ0n334 ?hy0n334 (by assumption) ?rest0n334
    case hi0n334 => (simp only [List.getElem?_toArray, List.getElem?_cons_zero]; rfl)
    case hQ0n334 => exact fun _ _ _ h => h
    case hy0n334 => exact Or.inl ⟨by rfl, by (intro w hSw; (try dsimp only at hSw); go_simp; (try with_reducible rfl))⟩
    try simp only [Act.put, List.setIfInBounds_toArray, List.set_cons_zero, List.set_cons_succ]
    refine' wpAnyH_take (i := 1) (oi := _) (v := _) ?hi1n334 (by kernel_rfl) (by kernel_rfl) (by kernel_rfl) ?hQ1n334 ?hy1n334 (by assumption) ?rest1n334
    case hi1n334 => (simp only [List.getElem?_toArray, List.getElem?_cons_succ, List.getElem?_cons_zero]; rfl)
    case hQ1n334 => exact fun _ _ _ h => h
    case hy1n334 => exact Or.inl ⟨by rfl, by (intro w hSw; (try dsimp only at hSw); go_simp; (try with_reducible rfl))⟩
    try simp only [Act.put, List.setIfInBounds_toArray, List.set_cons_zero, List.set_cons_succ]
    refine' wpAnyH_take (i := 3) (oi := _) (v := _) ?hi3n334 (by kernel_rfl) (by kernel_rfl) (by kernel_rfl) ?hQ3n334 ?hy3n334 (by assumption) ?rest3n334
    case hi3n334 => (simp only [List.getElem?_toArray, List.getElem?_cons_succ, List.getElem?_cons_zero]; rfl)
    case hQ3n334 => exact fun _ _ _ h => h
    case hy3n334 => exact Or.inl ⟨by rfl, by (intro w hSw; (try dsimp only at hSw); go_simp; (try with_reducible rfl))⟩
    try simp only [Act.put, List.setIfInBounds_toArray, List.set_cons_zero, List.set_cons_succ]
    refine' wpAnyH_take (i := 4) (oi := _) (v := _) ?hi4n334 (by kernel_rfl) (by kernel_rfl) (by kernel_rfl) ?hQ4n334 ?hy4n334 (by assumption) ?rest4n334
    case hi4n334 => (simp only [List.getElem?_toArray, List.getElem?_cons_succ, List.getElem?_cons_zero]; rfl)
    case hQ4n334 => exact fun _ _ _ h => h
    case hy4n334 => exact Or.inl ⟨by rfl, by (intro w hSw; (try dsimp only at hSw); go_simp; (try with_reducible rfl))⟩
    try simp only [Act.put, List.setIfInBounds_toArray, List.set_cons_zero, List.set_cons_succ]
    obtain ⟨xd8, hxw⟩ : ∃ xd, xk11.drew = xd := ⟨_, rfl⟩
    rw [hxw] at hHeld ⊢
    have bd : Below xk11.heap.size xk11 xd8 := by rw [← hxw]; exact (Below.refl _ _).drew
    clear hxw q0
    replace k3 := k3.below bd k3.1
    replace k5 := k5.below bd k5.1
    replace k9 := k9.below bd k9.1
    replace k11 := k11.below bd k11.1
    replace o1 := own_below o1 bd (own_lt o1)
    replace o2 := own_below o2 bd (own_lt o2)
    replace o3 := own_below o3 bd (own_lt o3)
    replace o4 := own_below o4 bd (own_lt o4)
    replace o7 := own_below o7 bd (own_lt o7)
    replace o8 := own_below o8 bd (own_lt o8)
    replace o9 := own_below o9 bd (own_lt o9)
    replace o10 := own_below o10 bd (own_lt o10)
    have zxd8 := bd.size
    replace bb := bb.trans (bd.mono bb.size)
    clear bd
    refine wpAnyH_ready (rs := [2]) (by kernel_rfl) (by simp) ?_
    refine AllReadyH.cons (by (simp only [List.getElem?_toArray, List.getElem?_cons_succ, List.getElem?_cons_zero]; rfl)) (fun K hK => ?_) AllReadyH.nil
    go_simp
    refine (X1.out _ _ _ _ (Rd.of_own o7) (Rd.of_own o8)).mono ?_
    rintro e w9 ⟨u11, rfl, o11, b9⟩
    have lo11 : ∀ k, u11.ownBlock = some k → xd8.heap.size ≤ k := fun k hk => (o11.lt k hk).1
    have mo11 := own_lt o11
    replace k3 := k3.below b9 k3.1
    replace k5 := k5.below b9 k5.1
    replace k9 := k9.below b9 k9.1
    replace k11 := k11.below b9 k11.1
    replace o1 := own_below o1 b9 (own_lt o1)
    replace o2 := own_below o2 b9 (own_lt o2)
    replace o3 := own_below o3 b9 (own_lt o3)
    replace o4 := own_below o4 b9 (own_lt o4)
    replace o7 := own_below o7 b9 (own_lt o7)
    replace o8 := own_below o8 b9 (own_lt o8)
    replace o9 := own_below o9 b9 (own_lt o9)
    replace o10 := own_below o10 b9 (own_lt o10)
    have zw9 := b9.size
    replace bb := bb.trans (b9.mono bb.size)
    clear b9
    obtain ⟨ao11, do11, rfl⟩ := own_form o11
    have q0 := And.intro k9.four (k11.four)
    dsimp only
    refine hK.out _ _ (by first | (dsimp only; exact q0) | exact q0) (fun hHeld => ?_)
    clear q0 hK K
    try simp only [Act.put, List.setIfInBounds_toArray, List.set_cons_zero, List.set_cons_succ]
    refine wpAnyH_ready (rs := [5]) (by kernel_rfl) (by simp) ?_
    refine AllReadyH.cons (by (simp only [List.getElem?_toArray, List.getElem?_cons_succ, List.getElem?_cons_zero]; rfl)) (fun K hK => ?_) AllReadyH.nil
    go_simp
    refine (X2.out _ _ _ _ (Rd.of_own o7) (Rd.of_own o8)).mono ?_
    rintro e w10 ⟨u12, rfl, o12, b10⟩
    have lo12 : ∀ k, u12.ownBlock = some k → w9.heap.size ≤ k := fun k hk => (o12.lt k hk).1
    have mo12 := own_lt o12
    replace k3 := k3.below b10 k3.1
    replace k5 := k5.below b10 k5.1
    replace k9 := k9.below b10 k9.1
    replace k11 := k11.below b10 k11.1
    replace o1 := own_below o1 b10 (own_lt o1)
    replace o2 := own_below o2 b10 (own_lt o2)
    replace o3 := own_below o3 b10 (own_lt o3)
    replace o4 := own_below o4 b10 (own_lt o4)
    replace o7 := own_below o7 b10 (own_lt o7)
    replace o8 := own_below o8 b10 (own_lt o8)
    replace o9 := own_below o9 b10 (own_lt o9)
    replace o10 := own_below o10 b10 (own_lt o10)
    replace o11 := own_below o11 b10 (own_lt o11)
    have zw10 := b10.size
    replace bb := bb.trans (b10.mono bb.size)
    clear b10
    obtain ⟨ao12, do12, rfl⟩ := own_form o12
    have q0 := And.intro k9.four (k11.four)
    dsimp only
    refine hK.out _ _ (by first | (dsimp only; exact q0) | exact q0) (fun hHeld => ?_)
    clear q0 hK K
    try simp only [Act.put, List.setIfInBounds_toArray, List.set_cons_zero, List.set_cons_succ]
    refine wpAnyH_ready (rs := [6]) (by kernel_rfl) (by simp) ?_
    refine AllReadyH.cons (by (simp only [List.getElem?_toArray, List.getElem?_cons_succ, List.getElem?_cons_zero]; rfl)) (fun K hK => ?_) AllReadyH.nil
    go_simp
    refine (sameInts_same _ _ _ _ (Rd.of_own o11) (Rd.of_own o12)).mono ?_
    rintro e w11 ⟨rfl, b11⟩
    replace k3 := k3.below b11 k3.1
    replace k5 := k5.below b11 k5.1
    replace k9 := k9.below b11 k9.1
    replace k11 := k11.below b11 k11.1
    replace o1 := own_below o1 b11 (own_lt o1)
    replace o2 := own_below o2 b11 (own_lt o2)
    replace o3 := own_below o3 b11 (own_lt o3)
    replace o4 := own_below o4 b11 (own_lt o4)
    replace o7 := own_below o7 b11 (own_lt o7)
    replace o8 := own_below o8 b11 (own_lt o8)
    replace o9 := own_below o9 b11 (own_lt o9)
    replace o10 := own_below o10 b11 (own_lt o10)
    replace o11 := own_below o11 b11 (own_lt o11)
    replace o12 := own_below o12 b11 (own_lt o12)
    have zw11 := b11.size
    replace bb := bb.trans (b11.mono bb.size)
    clear b11
    have q0 := And.intro k9.four (k11.four)
    dsimp only
    refine hK.out _ _ (by first | (dsimp only; exact q0) | exact q0) (fun hHeld => ?_)
    clear q0 hK K
    try simp only [Act.put, List.setIfInBounds_toArray, List.set_cons_zero, List.set_cons_succ]
    refine' wpAnyH_take (i := 7) (oi := _) (v := _) ?hi7n438 (by kernel_rfl) (by kernel_rfl) (by kernel_rfl) ?hQ7n438 ?hy7n438 (by assumption) ?rest7n438
    case hi7n438 => (simp only [List.getElem?_toArray, List.getElem?_cons_succ, List.getElem?_cons_zero]; rfl)
    case hQ7n438 => exact fun _ _ _ h => h
    case hy7n438 => exact Or.inl ⟨by rfl, by (intro w hSw; (try dsimp only at hSw); go_simp; (try with_reducible rfl))⟩
    try simp only [Act.put, List.setIfInBounds_toArray, List.set_cons_zero, List.set_cons_succ]
    refine' wpAnyH_take (i := 8) (oi := _) (v := _) ?hi8n438 (by kernel_rfl) (by kernel_rfl) (by kernel_rfl) ?hQ8n438 ?hy8n438 (by assumption) ?rest8n438
    case hi8n438 => (simp only [List.getElem?_toArray, List.getElem?_cons_succ, List.getElem?_cons_zero]; rfl)
    case hQ8n438 => exact fun _ _ _ h => h
    case hy8n438 => exact Or.inl ⟨by rfl, by (intro w hSw; (try dsimp only at hSw); go_simp; (try with_reducible rfl))⟩
    try simp only [Act.put, List.setIfInBounds_toArray, List.set_cons_zero, List.set_cons_succ]
    refine' wpAnyH_take (i := 9) (oi := _) (v := _) ?hi9n438 (by kernel_rfl) (by kernel_rfl) (by kernel_rfl) ?hQ9n438 ?hy9n438 (by assumption) ?rest9n438
    case hi9n438 => (simp only [List.getElem?_toArray, List.getElem?_cons_succ, List.getElem?_cons_zero]; rfl)
    case hQ9n438 => exact fun _ _ _ h => h
    case hy9n438 => exact Or.inl ⟨by rfl, by (intro w hSw; (try dsimp only at hSw); go_simp; (try with_reducible rfl))⟩
    try simp only [Act.put, List.setIfInBounds_toArray, List.set_cons_zero, List.set_cons_succ]
    refine' wpAnyH_take (i := 10) (oi := _) (v := _) ?hi10n438 (by kernel_rfl) (by kernel_rfl) (by kernel_rfl) ?hQ10n438 ?hy10n438 (by assumption) ?rest10n438
    case hi10n438 => (simp only [List.getElem?_toArray, List.getElem?_cons_succ, List.getElem?_cons_zero]; rfl)
    case hQ10n438 => exact fun _ _ _ h => h
    case hy10n438 => exact Or.inl ⟨by rfl, by (intro w hSw; (try dsimp only at hSw); go_simp; (try with_reducible rfl))⟩
    try simp only [Act.put, List.setIfInBounds_toArray, List.set_cons_zero, List.set_cons_succ]
    refine' wpAnyH_take (i := 12) (oi := _) (v := _) ?hi12n438 (by kernel_rfl) (by kernel_rfl) (by kernel_rfl) ?hQ12n438 ?hy12n438 (by assumption) ?rest12n438
    case hi12n438 => (simp only [List.getElem?_toArray, List.getElem?_cons_succ, List.getElem?_cons_zero]; rfl)
    case hQ12n438 => exact fun _ _ _ h => h
    case hy12n438 => exact Or.inl ⟨by rfl, by (intro w hSw; (try dsimp only at hSw); go_simp; (try with_reducible rfl))⟩
    try simp only [Act.put, List.setIfInBounds_toArray, List.set_cons_zero, List.set_cons_succ]
    refine' wpAnyH_take (i := 13) (oi := _) (v := _) ?hi13n438 (by kernel_rfl) (by kernel_rfl) (by kernel_rfl) ?hQ13n438 ?hy13n438 (by assumption) ?rest13n438
    case hi13n438 => (simp only [List.getElem?_toArray, List.getElem?_cons_succ, List.getElem?_cons_zero]; rfl)
    case hQ13n438 => exact fun _ _ _ h => h
    case hy13n438 => exact Or.inl ⟨by rfl, by (intro w hSw; (try dsimp only at hSw); go_simp; (try with_reducible rfl))⟩
    try simp only [Act.put, List.setIfInBounds_toArray, List.set_cons_zero, List.set_cons_succ]
    refine wpAnyH_ready (rs := [11]) (by kernel_rfl) (by simp) ?_
    refine AllReadyH.cons (by (simp only [List.getElem?_toArray, List.getElem?_cons_succ, List.getElem?_cons_zero]; rfl)) (fun K hK => ?_) AllReadyH.nil
    rw [if_pos (by rfl)]
    go_simp
    refine (Y1.out _ _ _ _ (Rd.of_own o9) (Rd.of_own o10)).mono ?_
    rintro e w12 ⟨rfl, b12⟩
    replace k3 := k3.below b12 k3.1
    replace k5 := k5.below b12 k5.1
    replace k9 := k9.below b12 k9.1
    replace k11 := k11.below b12 k11.1
    replace o1 := own_below o1 b12 (own_lt o1)
    replace o2 := own_below o2 b12 (own_lt o2)
    replace o3 := own_below o3 b12 (own_lt o3)
    replace o4 := own_below o4 b12 (own_lt o4)
    replace o7 := own_below o7 b12 (own_lt o7)
    replace o8 := own_below o8 b12 (own_lt o8)
    replace o9 := own_below o9 b12 (own_lt o9)
    replace o10 := own_below o10 b12 (own_lt o10)
    replace o11 := own_below o11 b12 (own_lt o11)
    replace o12 := own_below o12 b12 (own_lt o12)
    have zw12 := b12.size
    replace bb := bb.trans (b12.mono bb.size)
    clear b12
    have q0 := And.intro k9.four (k11.four)
    dsimp only
    refine hK.out _ _ (by first | (dsimp only; exact q0) | exact q0) (fun hHeld => ?_)
    clear q0 hK K
    try simp only [Act.put, List.setIfInBounds_toArray, List.set_cons_zero, List.set_cons_succ]
    refine wpAnyH_ready (rs := [14]) (by kernel_rfl) (by simp) ?_
    refine AllReadyH.cons (by (simp only [List.getElem?_toArray, List.getElem?_cons_succ, List.getElem?_cons_zero]; rfl)) (fun K hK => ?_) AllReadyH.nil
    rw [if_pos (by rfl)]
    go_simp
    refine (Y2.out _ _ _ _ (Rd.of_own o9) (Rd.of_own o10)).mono ?_
    rintro e w13 ⟨rfl, b13⟩
    replace k3 := k3.below b13 k3.1
    replace k5 := k5.below b13 k5.1
    replace k9 := k9.below b13 k9.1
    replace k11 := k11.below b13 k11.1
    replace o1 := own_below o1 b13 (own_lt o1)
    replace o2 := own_below o2 b13 (own_lt o2)
    replace o3 := own_below o3 b13 (own_lt o3)
    replace o4 := own_below o4 b13 (own_lt o4)
    replace o7 := own_below o7 b13 (own_lt o7)
    replace o8 := own_below o8 b13 (own_lt o8)
    replace o9 := own_below o9 b13 (own_lt o9)
    replace o10 := own_below o10 b13 (own_lt o10)
    replace o11 := own_below o11 b13 (own_lt o11)
    replace o12 := own_below o12 b13 (own_lt o12)
    have zw13 := b13.size
    replace bb := bb.trans (b13.mono bb.size)
    clear b13
    have q0 := And.intro k9.four (k11.four)
    dsimp only
    refine hK.out _ _ (by first | (dsimp only; exact q0) | exact q0) (fun hHeld => ?_)
    clear q0 hK K
    try simp only [Act.put, List.setIfInBounds_toArray, List.set_cons_zero, List.set_cons_succ]
    refine' wpAnyH_take (i := 15) (oi := _) (v := _) ?hi15n495 (by kernel_rfl) (by kernel_rfl) (by kernel_rfl) ?hQ15n495 ?hy15n495 (by assumption) ?rest15n495
    case hi15n495 => (simp only [List.getElem?_toArray, List.getElem?_cons_succ, List.getElem?_cons_zero]; rfl)
    case hQ15n495 => exact fun _ _ _ h => h
    case hy15n495 => exact Or.inl ⟨by rfl, by (intro w hSw; (try dsimp only at hSw); go_simp; (try with_reducible rfl))⟩
    try simp only [Act.put, List.setIfInBounds_toArray, List.set_cons_zero, List.set_cons_succ]
    refine' wpAnyH_take (i := 16) (oi := _) (v := _) ?hi16n495 (by kernel_rfl) (by kernel_rfl) (by kernel_rfl) ?hQ16n495 ?hy16n495 (by assumption) ?rest16n495
    case hi16n495 => (simp only [List.getElem?_toArray, List.getElem?_cons_succ, List.getElem?_cons_zero]; rfl)
    case hQ16n495 => exact fun _ _ _ h => h
    case hy16n495 => exact Or.inl ⟨by rfl, by (intro w hSw; (try dsimp only at hSw); go_simp; (try with_reducible rfl))⟩
    try simp only [Act.put, List.setIfInBounds_toArray, List.set_cons_zero, List.set_cons_succ]
    refine wpAnyH_done (by kernel_rfl) ?_ _
    clear hHeld
    clear lo7 mo7
    clear lo8 mo8
    clear lo9 mo9
    clear lo10 mo10
    clear lo11 mo11
    clear lo12 mo12
    clear o7 o8 o9 o10 o11 o12 k9 k11
    clear hyy X1 X2 Y1 Y2 H1 H2 H3
    have ck3 := k3.2.1
    have yk3 := k3.1
    go_wp2_with fail
    clear ck3 yk3
    refine (S1.out _ _ _ _ (Rd.of_own o1) (Rd.of_own o2)).mono ?_
    rintro e w14 ⟨rfl, b14⟩
    replace k3 := k3.below b14 k3.1
    replace k5 := k5.below b14 k5.1
    replace o1 := own_below o1 b14 (own_lt o1)
    replace o2 := own_below o2 b14 (own_lt o2)
    replace o3 := own_below o3 b14 (own_lt o3)
    replace o4 := own_below o4 b14 (own_lt o4)
    have zw14 := b14.size
    replace bb := bb.trans (b14.mono bb.size)
    clear b14
    rcases HC.out with ⟨hp, hs⟩ | m
    · rw [HSH.out] at hs
      injection hp with e1 e2 e3 e4
      clear HC C1 C2 C3 R1 M1 B1 O3 S3 M3 S4 HSH HL HLL IT IT2 IH
      subst e1
      subst e2
      subst e3
      subst e4
      subst hs
      have hs0 : (st []).toList.isEmpty = true := ba_empty rfl
      have ck3 := k3.2.1
      have yk3 := k3.1
      have ck5 := k5.2.1
      have yk5 := k5.1
      go_wp2_with fail
      clear ck3 yk3 ck5 yk5
      refine (sameHeap_same _ _ _ _ _ _ _ (Rd.of_own o3) (Rd.of_own o1)).mono ?_
      rintro e w15 ⟨rfl, b15⟩
      replace k3 := k3.below b15 k3.1
      replace k5 := k5.below b15 k5.1
      replace o1 := own_below o1 b15 (own_lt o1)
      replace o2 := own_below o2 b15 (own_lt o2)
      replace o3 := own_below o3 b15 (own_lt o3)
      replace o4 := own_below o4 b15 (own_lt o4)
      have zw15 := b15.size
      replace bb := bb.trans (b15.mono bb.size)
      clear b15
      go_wp2_with fail
      refine (sameInts_same _ _ _ _ (Rd.of_own o4) (Rd.of_own o2)).mono ?_
      rintro e w16 ⟨rfl, b16⟩
      replace k3 := k3.below b16 k3.1
      replace k5 := k5.below b16 k5.1
      replace o1 := own_below o1 b16 (own_lt o1)
      replace o2 := own_below o2 b16 (own_lt o2)
      replace o3 := own_below o3 b16 (own_lt o3)
      replace o4 := own_below o4 b16 (own_lt o4)
      have zw16 := b16.size
      replace bb := bb.trans (b16.mono bb.size)
      clear b16
      go_wp2
      go_ret
      exact ⟨rfl, bb⟩
    · have m1 := m.ok
      have m2 := m.shape
      have m3 := m.size
      have m4 := m.shape2
      have m5 := m.base2.symm
      have m6 := m.size2
      have m7 := m.room
      have m8 := m.le
      have m9 := m.in_
      have m10 := m.is
      dsimp only at m1 m2 m3 m4 m5 m6 m7
      rw [HSH.out] at m2 m4 m10
      rw [HL.out] at m3 m6 m8 m9
      subst m5
      have q1 := O3.out
      rw [m1] at q1
      have O3' := Lib.hid q1
      have q2 := S3.out
      rw [m2] at q2
      have S3' := Lib.hid q2
      have q3 := S4.out
      rw [m4] at q3
      have S4' := Lib.hid q3
      obtain ⟨r1, hr1⟩ : ∃ r, roomOf ws h b n = r := ⟨_, rfl⟩
      obtain ⟨r3, hr3⟩ : ∃ r, roomOf ts h tb tn = r := ⟨_, rfl⟩
      have q4 := M1.out
      have q5 := M3.out
      clear M3
      rw [hr1] at q4 m7
      rw [hr3] at q5 m7
      have M1' := Lib.hid q4
      have M3' := Lib.hid q5
      obtain ⟨ST, hST⟩ : ∃ m, sizeOf_ ws l = m := ⟨_, rfl⟩
      rw [hST] at m3 m6 m8
      have MR := Lib.hid m7
      have M6 := Lib.hid m6
      have M3 := Lib.hid m3
      have M8 := Lib.hid m8
      have HST := Lib.hid hST
      have HIN := Lib.hid (fun (k : Nat) (hk : k < l.length) => m9 (l.getD k 0) (by rw [List.getD_eq_getElem?_getD, List.getElem?_eq_getElem hk]; exact List.getElem_mem hk))
      have m11 := ba_full m10
      clear m m1 m2 m3 m4 m6 m7 m8 m9 m10 hr1 hr3 hST q1 q2 q3 q4 q5 O3 S3 S4 M1 HC C1 C2 HSH HL
      have ck3 := k3.2.1
      have yk3 := k3.1
      go_wp2_with fail
      clear ck3 yk3
      clear m11
      refine (R1.out _ _ _ _ (Rd.of_own o1) (Rd.of_own o2)).mono ?_
      rintro e w15 ⟨u14, rfl, o14, b15⟩
      have lo14 : ∀ k, u14.ownBlock = some k → w14.heap.size ≤ k := fun k hk => (o14.lt k hk).1
      have mo14 := own_lt o14
      replace k3 := k3.below b15 k3.1
      replace k5 := k5.below b15 k5.1
      replace o1 := own_below o1 b15 (own_lt o1)
      replace o2 := own_below o2 b15 (own_lt o2)
      replace o3 := own_below o3 b15 (own_lt o3)
      replace o4 := own_below o4 b15 (own_lt o4)
      have zw15 := b15.size
      replace bb := bb.trans (b15.mono bb.size)
      clear b15
      obtain ⟨ao14, do14, rfl⟩ := own_form o14
      go_wp2_with fail
      have BB := Lib.hid bb
      have Hk3 := Lib.hid k3
      have Hk5 := Lib.hid k5
      have Ho1 := Lib.hid o1
      have Ho2 := Lib.hid o2
      have Ho3 := Lib.hid o3
      have Ho4 := Lib.hid o4
      have Ho14 := Lib.hid o14
      clear bb k3 k5 o1 o2 o3 o4 o14
      go_loopw [15, 16] (fun s i wr => ∃ k : Nat, k ≤ l.length ∧ s = .int .i64 ((sizeOf_ ws (l.take k) : Nat) : Int) ∧ i = .int .i64 k ∧ Below w15.heap.size w15 wr) (fun _ i _ => l.length - (intOf i).toNat)
      case atStart => exact ⟨0, Nat.zero_le _, by rfl, rfl, Below.refl _ _⟩
      case round =>
        obtain ⟨k, hk, rfl, rfl, hst⟩ := hrel
        by_cases hlt : k < l.length
        · have kk3 := Hk3.out.below hst Hk3.out.1
          have hstep := sizeOf_take ws l k hlt
          have hsle := sizeOf_le ws l (k + 1)
          have hin := HIN.out k hlt
          have hll := HLL.out
          have hm8 := M8.out
          rw [HST.out] at hsle
          have OH := (Rd.of_own Ho1.out).below' hst
          rcases (Rd.of_own Ho14.out).below' hst with ⟨h', _⟩ | ⟨b1, off1, cp1, hv1, _, hbs1, _, hc1⟩
          · rw [h'] at hlt; simp at hlt
          cases hv1
          have c1 := hc1 k hlt
          obtain ⟨y, hye⟩ : ∃ y, l.getD k 0 = y := ⟨_, rfl⟩
          rw [hye] at c1 hstep hin
          obtain ⟨S, hS⟩ : ∃ S, sizeOf_ ws (l.take k) = S := ⟨_, rfl⟩
          rw [hS] at hstep ⊢
          obtain ⟨kl, hkl⟩ : ∃ m, (kidsAt ws y.toNat).length = m := ⟨_, rfl⟩
          rw [hkl] at hstep
          have hl1 : (k : Int) < (l.length : Int) := by omega
          have hw1 : IntKind.i64.wrap ((S : Int) + 1) = (S : Int) + 1 := IntWalk.i64_in _ (by omega)
          have hw2 : IntKind.i64.wrap ((S : Int) + 1 + kl) = (S : Int) + 1 + kl := IntWalk.i64_in _ (by omega)
          have hw3 : IntKind.i64.wrap ((k : Int) + 1) = (k : Int) + 1 := IntWalk.i64_in _ (by omega)
          have HSTEP := Lib.hid hstep
          have HST2 := Lib.hid hst
          have BK := Lib.hid (B1.out _ _ _ OH y y.toNat hin)
          have BK2 := Lib.hid (fun (W : World) (hb : Below wr.heap.size wr W) => B1.out _ _ _ (OH.below' hb) y y.toNat hin)
          rw [hkl] at BK2
          clear hc1 hye hsle hin hll hm8 hS hkl hstep hst OH BK
          go_upto_region 20 with fail
          have q0 := And.intro kk3.four c1
          refine wp_region_held_drew (S := (fun w' => (w'.cell? ⟨w1.heap.size, 0, none⟩ = some (.slice ao1 ws.length do1) ∧ w'.cell? ⟨w1.heap.size, 1, none⟩ = some (.int .i64 h) ∧ w'.cell? ⟨w1.heap.size, 2, none⟩ = some (.int .i64 b) ∧ w'.cell? ⟨w1.heap.size, 3, none⟩ = some (.int .i64 n)) ∧ w'.cell? ⟨b1, off1 + k, none⟩ = some (.int .i64 y))) (by kernel_rfl) (by first | (dsimp only; exact q0) | (exact q0)) (fun hHeld => ?_)
          refine' wpAnyH_take (i := 0) (oi := _) (v := _) ?hi0n670 (by kernel_rfl) (by kernel_rfl) (by kernel_rfl) ?hQ0n670 ?hy0n670 (by assumption) ?rest0n670
          case hi0n670 => (simp only [List.getElem?_toArray, List.getElem?_cons_zero]; rfl)
          case hQ0n670 => exact fun _ _ _ h => h
          case hy0n670 => exact Or.inl ⟨by rfl, by (intro w hSw; (try dsimp only at hSw); go_simp; (try with_reducible rfl))⟩
          try simp only [Act.put, List.setIfInBounds_toArray, List.set_cons_zero, List.set_cons_succ]
          refine' wpAnyH_take (i := 1) (oi := _) (v := _) ?hi1n670 (by kernel_rfl) (by kernel_rfl) (by kernel_rfl) ?hQ1n670 ?hy1n670 (by assumption) ?rest1n670
          case hi1n670 => (simp only [List.getElem?_toArray, List.getElem?_cons_succ, List.getElem?_cons_zero]; rfl)
          case hQ1n670 => exact fun _ _ _ h => h
          case hy1n670 => exact Or.inl ⟨by rfl, by (intro w hSw; (try dsimp only at hSw); go_simp; (try with_reducible rfl))⟩
          try simp only [Act.put, List.setIfInBounds_toArray, List.set_cons_zero, List.set_cons_succ]
          refine' wpAnyH_take (i := 2) (oi := _) (v := _) ?hi2n670 (by kernel_rfl) (by kernel_rfl) (by kernel_rfl) ?hQ2n670 ?hy2n670 (by assumption) ?rest2n670
          case hi2n670 => (simp only [List.getElem?_toArray, List.getElem?_cons_succ, List.getElem?_cons_zero]; rfl)
          case hQ2n670 => exact fun _ _ _ h => h
          case hy2n670 => exact Or.inl ⟨by rfl, by (intro w hSw; (try dsimp only at hSw); go_simp; (try with_reducible rfl))⟩
          try simp only [Act.put, List.setIfInBounds_toArray, List.set_cons_zero, List.set_cons_succ]
          refine' wpAnyH_take (i := 3) (oi := _) (v := _) ?hi3n670 (by kernel_rfl) (by kernel_rfl) (by kernel_rfl) ?hQ3n670 ?hy3n670 (by assumption) ?rest3n670
          case hi3n670 => (simp only [List.getElem?_toArray, List.getElem?_cons_succ, List.getElem?_cons_zero]; rfl)
          case hQ3n670 => exact fun _ _ _ h => h
          case hy3n670 => exact Or.inl ⟨by rfl, by (intro w hSw; (try dsimp only at hSw); go_simp; (try with_reducible rfl))⟩
          try simp only [Act.put, List.setIfInBounds_toArray, List.set_cons_zero, List.set_cons_succ]
          refine' wpAnyH_take (i := 4) (oi := _) (v := _) ?hi4n670 (by kernel_rfl) (by kernel_rfl) (by kernel_rfl) ?hQ4n670 ?hy4n670 (by assumption) ?rest4n670
          case hi4n670 => (simp only [List.getElem?_toArray, List.getElem?_cons_succ, List.getElem?_cons_zero]; rfl)
          case hQ4n670 => exact fun _ _ _ h => h
          case hy4n670 => exact Or.inl ⟨by rfl, by (intro w hSw; (try dsimp only at hSw); go_simp; (try with_reducible rfl))⟩
          try simp only [Act.put, List.setIfInBounds_toArray, List.set_cons_zero, List.set_cons_succ]
          obtain ⟨xdl, hxw⟩ : ∃ xd, wr.drew = xd := ⟨_, rfl⟩
          rw [hxw] at hHeld ⊢
          have bd : Below wr.heap.size wr xdl := by rw [← hxw]; exact (Below.refl _ _).drew
          clear hxw q0
          refine wpAnyH_ready (rs := [5]) (by kernel_rfl) (by simp) ?_
          refine AllReadyH.cons (by (simp only [List.getElem?_toArray, List.getElem?_cons_succ, List.getElem?_cons_zero]; rfl)) (fun K hK => ?_) AllReadyH.nil
          go_simp
          refine (BK2.out _ bd).mono ?_
          rintro e wc ⟨⟨f, t, u, rfl, ou⟩, bc⟩
          have bw := bd.trans (bc.mono bd.size)
          have q0 := And.intro (kk3.below bw kk3.1).four ((bw.cell (p := ⟨b1, off1 + k, none⟩) hbs1).trans c1)
          have BW := Lib.hid bw
          obtain ⟨au, du, rfl⟩ := own_form ou
          clear bc bd bw ou
          dsimp only
          refine hK.out _ _ (by first | (dsimp only; exact q0) | exact q0) (fun hHeld => ?_)
          clear q0 hK K
          try simp only [Act.put, List.setIfInBounds_toArray, List.set_cons_zero, List.set_cons_succ]
          refine' wpAnyH_take (i := 6) (oi := _) (v := _) ?hi6n689 (by kernel_rfl) (by kernel_rfl) (by kernel_rfl) ?hQ6n689 ?hy6n689 (by assumption) ?rest6n689
          case hi6n689 => (simp only [List.getElem?_toArray, List.getElem?_cons_succ, List.getElem?_cons_zero]; rfl)
          case hQ6n689 => exact fun _ _ _ h => h
          case hy6n689 => exact Or.inl ⟨by rfl, by (intro w hSw; (try dsimp only at hSw); go_simp; (try with_reducible rfl))⟩
          try simp only [Act.put, List.setIfInBounds_toArray, List.set_cons_zero, List.set_cons_succ]
          refine' wpAnyH_take (i := 7) (oi := _) (v := _) ?hi7n689 (by kernel_rfl) (by kernel_rfl) (by kernel_rfl) ?hQ7n689 ?hy7n689 (by assumption) ?rest7n689
          case hi7n689 => (simp only [List.getElem?_toArray, List.getElem?_cons_succ, List.getElem?_cons_zero]; rfl)
          case hQ7n689 => exact fun _ _ _ h => h
          case hy7n689 => exact Or.inl ⟨by rfl, by (intro w hSw; (try dsimp only at hSw); go_simp; (try with_reducible rfl))⟩
          try simp only [Act.put, List.setIfInBounds_toArray, List.set_cons_zero, List.set_cons_succ]
          refine' wpAnyH_take (i := 8) (oi := _) (v := _) ?hi8n689 (by kernel_rfl) (by kernel_rfl) (by kernel_rfl) ?hQ8n689 ?hy8n689 (by assumption) ?rest8n689
          case hi8n689 => (simp only [List.getElem?_toArray, List.getElem?_cons_succ, List.getElem?_cons_zero]; rfl)
          case hQ8n689 => exact fun _ _ _ h => h
          case hy8n689 => exact Or.inl ⟨by rfl, by (intro w hSw; (try dsimp only at hSw); go_simp; (try with_reducible rfl))⟩
          try simp only [Act.put, List.setIfInBounds_toArray, List.set_cons_zero, List.set_cons_succ]
          refine' wpAnyH_take (i := 9) (oi := _) (v := _) ?hi9n689 (by kernel_rfl) (by kernel_rfl) (by kernel_rfl) ?hQ9n689 ?hy9n689 (by assumption) ?rest9n689
          case hi9n689 => (simp only [List.getElem?_toArray, List.getElem?_cons_succ, List.getElem?_cons_zero]; rfl)
          case hQ9n689 => exact fun _ _ _ h => h
          case hy9n689 => exact Or.inl ⟨by rfl, by (intro w hSw; (try dsimp only at hSw); go_simp; (try with_reducible rfl))⟩
          try simp only [Act.put, List.setIfInBounds_toArray, List.set_cons_zero, List.set_cons_succ]
          refine' wpAnyH_take (i := 10) (oi := _) (v := _) ?hi10n689 (by kernel_rfl) (by kernel_rfl) (by kernel_rfl) ?hQ10n689 ?hy10n689 (by assumption) ?rest10n689
          case hi10n689 => (simp only [List.getElem?_toArray, List.getElem?_cons_succ, List.getElem?_cons_zero]; rfl)
          case hQ10n689 => exact fun _ _ _ h => h
          case hy10n689 => exact Or.inl ⟨by rfl, by (intro w hSw; (try dsimp only at hSw); go_simp; (try with_reducible rfl))⟩
          try simp only [Act.put, List.setIfInBounds_toArray, List.set_cons_zero, List.set_cons_succ]
          refine' wpAnyH_take (i := 11) (oi := _) (v := _) ?hi11n689 (by kernel_rfl) (by kernel_rfl) (by kernel_rfl) ?hQ11n689 ?hy11n689 (by assumption) ?rest11n689
          case hi11n689 => (simp only [List.getElem?_toArray, List.getElem?_cons_succ, List.getElem?_cons_zero]; rfl)
          case hQ11n689 => exact fun _ _ _ h => h
          case hy11n689 => exact Or.inl ⟨by rfl, by (intro w hSw; (try dsimp only at hSw); go_simp; (try with_reducible rfl))⟩
          try simp only [Act.put, List.setIfInBounds_toArray, List.set_cons_zero, List.set_cons_succ]
          refine' wpAnyH_take (i := 12) (oi := _) (v := _) ?hi12n689 (by kernel_rfl) (by kernel_rfl) (by kernel_rfl) ?hQ12n689 ?hy12n689 (by assumption) ?rest12n689
          case hi12n689 => (simp only [List.getElem?_toArray, List.getElem?_cons_succ, List.getElem?_cons_zero]; rfl)
          case hQ12n689 => exact fun _ _ _ h => h
          case hy12n689 => exact Or.inl ⟨by rfl, by (intro w hSw; (try dsimp only at hSw); go_simp; (try with_reducible rfl))⟩
          try simp only [Act.put, List.setIfInBounds_toArray, List.set_cons_zero, List.set_cons_succ]
          refine' wpAnyH_take (i := 13) (oi := _) (v := _) ?hi13n689 (by kernel_rfl) (by kernel_rfl) (by kernel_rfl) ?hQ13n689 ?hy13n689 (by assumption) ?rest13n689
          case hi13n689 => (simp only [List.getElem?_toArray, List.getElem?_cons_succ, List.getElem?_cons_zero]; rfl)
          case hQ13n689 => exact fun _ _ _ h => h
          case hy13n689 => exact Or.inl ⟨by rfl, by (intro w hSw; (try dsimp only at hSw); go_simp; (try with_reducible rfl))⟩
          try simp only [Act.put, List.setIfInBounds_toArray, List.set_cons_zero, List.set_cons_succ]
          refine' wpAnyH_take (i := 14) (oi := _) (v := _) ?hi14n689 (by kernel_rfl) (by kernel_rfl) (by kernel_rfl) ?hQ14n689 ?hy14n689 (by assumption) ?rest14n689
          case hi14n689 => (simp only [List.getElem?_toArray, List.getElem?_cons_succ, List.getElem?_cons_zero]; rfl)
          case hQ14n689 => exact fun _ _ _ h => h
          case hy14n689 => exact Or.inl ⟨by rfl, by (intro w hSw; (try dsimp only at hSw); go_simp; (try with_reducible rfl))⟩
          try simp only [Act.put, List.setIfInBounds_toArray, List.set_cons_zero, List.set_cons_succ]
          refine wpAnyH_done (by kernel_rfl) ?_ _
          clear hHeld c1 kk3
          go_wp2
          go_roundw
          case rel =>
            have h1 := HSTEP.out
            exact ⟨k + 1, by omega, by congr 1; omega, by congr 1, HST2.out.trans (BW.out.mono HST2.out.size)⟩
          case measure => simp [intOf]; omega
        · have hl3 : ¬ (k : Int) < (l.length : Int) := by omega
          have hke : k = l.length := by omega
          subst hke
          rw [List.take_length, HST.out]
          have k3 := Hk3.out.below hst Hk3.out.1
          have k5 := Hk5.out.below hst Hk5.out.1
          have o1 := own_below Ho1.out hst (own_lt Ho1.out)
          have o2 := own_below Ho2.out hst (own_lt Ho2.out)
          have o3 := own_below Ho3.out hst (own_lt Ho3.out)
          have o4 := own_below Ho4.out hst (own_lt Ho4.out)
          have o14 := own_below Ho14.out hst (own_lt Ho14.out)
          have bb := BB.out.trans (hst.mono BB.out.size)
          have zwr := hst.size
          clear hst hk Hk3 Hk5 Ho1 Ho2 Ho3 Ho4 Ho14 BB HIN HLL B1 HST
          have ck5 := k5.2.1
          have yk5 := k5.1
          go_wp2_with fail
          clear ck5 yk5
          clear hl3
          refine (C3.out _ _ _ _ (Rd.of_own o3) (Rd.of_own o4)).mono ?_
          rintro e w16 ⟨⟨v21, vq21, rfl, o21, o22, -⟩, b16⟩
          have lo21 : ∀ k, v21.ownBlock = some k → wr.heap.size ≤ k := fun k hk => (o21.lt k hk).1
          have mo21 := own_lt o21
          have lo22 : ∀ k, vq21.ownBlock = some k → wr.heap.size ≤ k := fun k hk => (o22.lt k hk).1
          have mo22 := own_lt o22
          replace k3 := k3.below b16 k3.1
          replace k5 := k5.below b16 k5.1
          replace o1 := own_below o1 b16 (own_lt o1)
          replace o2 := own_below o2 b16 (own_lt o2)
          replace o3 := own_below o3 b16 (own_lt o3)
          replace o4 := own_below o4 b16 (own_lt o4)
          replace o14 := own_below o14 b16 (own_lt o14)
          have zw16 := b16.size
          replace bb := bb.trans (b16.mono bb.size)
          clear b16
          obtain ⟨ao21, do21, rfl⟩ := own_form o21
          obtain ⟨ao22, do22, rfl⟩ := own_form o22
          go_upto_region 23 with fail
          generalize hx : w16.alloc _ = xk21
          obtain ⟨bx, k21⟩ := Bx.alloc hx
          clear hx
          replace k3 := k3.below bx k3.1
          replace k5 := k5.below bx k5.1
          replace o1 := own_below o1 bx (own_lt o1)
          replace o2 := own_below o2 bx (own_lt o2)
          replace o3 := own_below o3 bx (own_lt o3)
          replace o4 := own_below o4 bx (own_lt o4)
          replace o14 := own_below o14 bx (own_lt o14)
          replace o21 := own_below o21 bx (own_lt o21)
          replace o22 := own_below o22 bx (own_lt o22)
          have zxk21 := bx.size
          replace bb := bb.trans (bx.mono bb.size)
          clear bx
          have uk21 := k21.1
          have hss := ba_beq sh
          have m8 := M8.out
          have m3 := M3.out
          have m6 := M6.out
          have hrr := MR.out
          have hw3 : IntKind.i64.wrap (tn - tb) = (ST : Int) := by rw [m3]; exact IntWalk.i64_in _ (by omega)
          have hw4 : IntKind.i64.wrap (tn2 - b) = (ST : Int) := by rw [m6]; exact IntWalk.i64_in _ (by omega)
          clear m3 m6 m8
          have q0 := And.intro k5.four (And.intro k21.four (k3.four))
          refine wp_region_held_drew (S := (fun w' => (w'.cell? ⟨w2.heap.size, 0, none⟩ = some (.slice ao3 ts.length do3) ∧ w'.cell? ⟨w2.heap.size, 1, none⟩ = some (.int .i64 h) ∧ w'.cell? ⟨w2.heap.size, 2, none⟩ = some (.int .i64 tb) ∧ w'.cell? ⟨w2.heap.size, 3, none⟩ = some (.int .i64 tn)) ∧ (w'.cell? ⟨w16.heap.size, 0, none⟩ = some (.slice ao21 ts2.length do21) ∧ w'.cell? ⟨w16.heap.size, 1, none⟩ = some (.int .i64 h) ∧ w'.cell? ⟨w16.heap.size, 2, none⟩ = some (.int .i64 b) ∧ w'.cell? ⟨w16.heap.size, 3, none⟩ = some (.int .i64 tn2)) ∧ (w'.cell? ⟨w1.heap.size, 0, none⟩ = some (.slice ao1 ws.length do1) ∧ w'.cell? ⟨w1.heap.size, 1, none⟩ = some (.int .i64 h) ∧ w'.cell? ⟨w1.heap.size, 2, none⟩ = some (.int .i64 b) ∧ w'.cell? ⟨w1.heap.size, 3, none⟩ = some (.int .i64 n)))) (by kernel_rfl) (by first | (dsimp only; exact q0) | (exact q0)) (fun hHeld => ?_)
          refine' wpAnyH_take (i := 0) (oi := _) (v := _) ?hi0n762 (by kernel_rfl) (by kernel_rfl) (by kernel_rfl) ?hQ0n762 ?hy0n762 (by assumption) ?rest0n762
          case hi0n762 => (simp only [List.getElem?_toArray, List.getElem?_cons_zero]; rfl)
          case hQ0n762 => exact fun _ _ _ h => h
          case hy0n762 => exact Or.inl ⟨by rfl, by (intro w hSw; (try dsimp only at hSw); go_simp; (try with_reducible rfl))⟩
          try simp only [Act.put, List.setIfInBounds_toArray, List.set_cons_zero, List.set_cons_succ]
          obtain ⟨xd17, hxw⟩ : ∃ xd, xk21.drew = xd := ⟨_, rfl⟩
          rw [hxw] at hHeld ⊢
          have bd : Below xk21.heap.size xk21 xd17 := by rw [← hxw]; exact (Below.refl _ _).drew
          clear hxw q0
          replace k3 := k3.below bd k3.1
          replace k5 := k5.below bd k5.1
          replace k21 := k21.below bd k21.1
          replace o1 := own_below o1 bd (own_lt o1)
          replace o2 := own_below o2 bd (own_lt o2)
          replace o3 := own_below o3 bd (own_lt o3)
          replace o4 := own_below o4 bd (own_lt o4)
          replace o14 := own_below o14 bd (own_lt o14)
          replace o21 := own_below o21 bd (own_lt o21)
          replace o22 := own_below o22 bd (own_lt o22)
          have zxd17 := bd.size
          replace bb := bb.trans (bd.mono bb.size)
          clear bd
          refine wpAnyH_ready (rs := [1]) (by kernel_rfl) (by simp) ?_
          refine AllReadyH.cons (by (simp only [List.getElem?_toArray, List.getElem?_cons_succ, List.getElem?_cons_zero]; rfl)) (fun K hK => ?_) AllReadyH.nil
          go_simp
          refine (O3'.out _ _ _ (Rd.of_own o3)).mono ?_
          rintro e w18 ⟨rfl, b18⟩
          replace k3 := k3.below b18 k3.1
          replace k5 := k5.below b18 k5.1
          replace k21 := k21.below b18 k21.1
          replace o1 := own_below o1 b18 (own_lt o1)
          replace o2 := own_below o2 b18 (own_lt o2)
          replace o3 := own_below o3 b18 (own_lt o3)
          replace o4 := own_below o4 b18 (own_lt o4)
          replace o14 := own_below o14 b18 (own_lt o14)
          replace o21 := own_below o21 b18 (own_lt o21)
          replace o22 := own_below o22 b18 (own_lt o22)
          have zw18 := b18.size
          replace bb := bb.trans (b18.mono bb.size)
          clear b18
          have q0 := And.intro k5.four (And.intro k21.four (k3.four))
          dsimp only
          refine hK.out _ _ (by first | (dsimp only; exact q0) | exact q0) (fun hHeld => ?_)
          clear q0 hK K
          try simp only [Act.put, List.setIfInBounds_toArray, List.set_cons_zero, List.set_cons_succ]
          refine' wpAnyH_take (i := 2) (oi := _) (v := _) ?hi2n803 (by kernel_rfl) (by kernel_rfl) (by kernel_rfl) ?hQ2n803 ?hy2n803 (by assumption) ?rest2n803
          case hi2n803 => (simp only [List.getElem?_toArray, List.getElem?_cons_succ, List.getElem?_cons_zero]; rfl)
          case hQ2n803 => exact fun _ _ _ h => h
          case hy2n803 => exact Or.inl ⟨by rfl, by (intro w hSw; (try dsimp only at hSw); go_simp; (try with_reducible rfl))⟩
          try simp only [Act.put, List.setIfInBounds_toArray, List.set_cons_zero, List.set_cons_succ]
          refine' wpAnyH_take (i := 3) (oi := _) (v := _) ?hi3n803 (by kernel_rfl) (by kernel_rfl) (by kernel_rfl) ?hQ3n803 ?hy3n803 (by assumption) ?rest3n803
          case hi3n803 => (simp only [List.getElem?_toArray, List.getElem?_cons_succ, List.getElem?_cons_zero]; rfl)
          case hQ3n803 => exact fun _ _ _ h => h
          case hy3n803 => exact Or.inl ⟨by rfl, by (intro w hSw; (try dsimp only at hSw); go_simp; (try with_reducible rfl))⟩
          try simp only [Act.put, List.setIfInBounds_toArray, List.set_cons_zero, List.set_cons_succ]
          refine' wpAnyH_take (i := 4) (oi := _) (v := _) ?hi4n803 (by kernel_rfl) (by kernel_rfl) (by kernel_rfl) ?hQ4n803 ?hy4n803 (by assumption) ?rest4n803
          case hi4n803 => (simp only [List.getElem?_toArray, List.getElem?_cons_succ, List.getElem?_cons_zero]; rfl)
          case hQ4n803 => exact fun _ _ _ h => h
          case hy4n803 => exact Or.inl ⟨by rfl, by (intro w hSw; (try dsimp only at hSw); go_simp; (try with_reducible rfl))⟩
          try simp only [Act.put, List.setIfInBounds_toArray, List.set_cons_zero, List.set_cons_succ]
          refine' wpAnyH_take (i := 6) (oi := _) (v := _) ?hi6n803 (by kernel_rfl) (by kernel_rfl) (by kernel_rfl) ?hQ6n803 ?hy6n803 (by assumption) ?rest6n803
          case hi6n803 => (simp only [List.getElem?_toArray, List.getElem?_cons_succ, List.getElem?_cons_zero]; rfl)
          case hQ6n803 => exact fun _ _ _ h => h
          case hy6n803 => exact Or.inl ⟨by rfl, by (intro w hSw; (try dsimp only at hSw); go_simp; (try with_reducible rfl))⟩
          try simp only [Act.put, List.setIfInBounds_toArray, List.set_cons_zero, List.set_cons_succ]
          refine wpAnyH_ready (rs := [5]) (by kernel_rfl) (by simp) ?_
          refine AllReadyH.cons (by (simp only [List.getElem?_toArray, List.getElem?_cons_succ, List.getElem?_cons_zero]; rfl)) (fun K hK => ?_) AllReadyH.nil
          rw [if_pos (by rfl)]
          go_simp
          refine (S3'.out _ _ _ _ (Rd.of_own o3) (Rd.of_own o4)).mono ?_
          rintro e w19 ⟨rfl, b19⟩
          replace k3 := k3.below b19 k3.1
          replace k5 := k5.below b19 k5.1
          replace k21 := k21.below b19 k21.1
          replace o1 := own_below o1 b19 (own_lt o1)
          replace o2 := own_below o2 b19 (own_lt o2)
          replace o3 := own_below o3 b19 (own_lt o3)
          replace o4 := own_below o4 b19 (own_lt o4)
          replace o14 := own_below o14 b19 (own_lt o14)
          replace o21 := own_below o21 b19 (own_lt o21)
          replace o22 := own_below o22 b19 (own_lt o22)
          have zw19 := b19.size
          replace bb := bb.trans (b19.mono bb.size)
          clear b19
          have q0 := And.intro k5.four (And.intro k21.four (k3.four))
          dsimp only
          refine hK.out _ _ (by first | (dsimp only; exact q0) | exact q0) (fun hHeld => ?_)
          clear q0 hK K
          try simp only [Act.put, List.setIfInBounds_toArray, List.set_cons_zero, List.set_cons_succ]
          refine' wpAnyH_take (i := 7) (oi := _) (v := _) ?hi7n828 (by kernel_rfl) (by kernel_rfl) (by kernel_rfl) ?hQ7n828 ?hy7n828 (by assumption) ?rest7n828
          case hi7n828 => (simp only [List.getElem?_toArray, List.getElem?_cons_succ, List.getElem?_cons_zero]; rfl)
          case hQ7n828 => exact fun _ _ _ h => h
          case hy7n828 => exact Or.inl ⟨by rfl, by (intro w hSw; (try dsimp only at hSw); go_simp; (try with_reducible rfl))⟩
          try simp only [Act.put, List.setIfInBounds_toArray, List.set_cons_zero, List.set_cons_succ]
          refine' wpAnyH_take (i := 8) (oi := _) (v := _) ?hi8n828 (by kernel_rfl) (by kernel_rfl) (by kernel_rfl) ?hQ8n828 ?hy8n828 (by assumption) ?rest8n828
          case hi8n828 => (simp only [List.getElem?_toArray, List.getElem?_cons_succ, List.getElem?_cons_zero]; rfl)
          case hQ8n828 => exact fun _ _ _ h => h
          case hy8n828 => exact Or.inl ⟨by rfl, by (intro w hSw; (try dsimp only at hSw); go_simp; (try with_reducible rfl))⟩
          try simp only [Act.put, List.setIfInBounds_toArray, List.set_cons_zero, List.set_cons_succ]
          refine' wpAnyH_take (i := 9) (oi := _) (v := _) ?hi9n828 (by kernel_rfl) (by kernel_rfl) (by kernel_rfl) ?hQ9n828 ?hy9n828 (by assumption) ?rest9n828
          case hi9n828 => (simp only [List.getElem?_toArray, List.getElem?_cons_succ, List.getElem?_cons_zero]; rfl)
          case hQ9n828 => exact fun _ _ _ h => h
          case hy9n828 => exact Or.inl ⟨by rfl, by (intro w hSw; (try dsimp only at hSw); go_simp; (try with_reducible rfl))⟩
          try simp only [Act.put, List.setIfInBounds_toArray, List.set_cons_zero, List.set_cons_succ]
          refine' wpAnyH_take (i := 10) (oi := _) (v := _) ?hi10n828 (by kernel_rfl) (by kernel_rfl) (by kernel_rfl) ?hQ10n828 ?hy10n828 (by assumption) ?rest10n828
          case hi10n828 => (simp only [List.getElem?_toArray, List.getElem?_cons_succ, List.getElem?_cons_zero]; rfl)
          case hQ10n828 => exact fun _ _ _ h => h
          case hy10n828 => exact Or.inl ⟨by rfl, by (intro w hSw; (try dsimp only at hSw); go_simp; (try with_reducible rfl))⟩
          try simp only [Act.put, List.setIfInBounds_toArray, List.set_cons_zero, List.set_cons_succ]
          refine' wpAnyH_take (i := 11) (oi := _) (v := _) ?hi11n828 (by kernel_rfl) (by kernel_rfl) (by kernel_rfl) ?hQ11n828 ?hy11n828 (by assumption) ?rest11n828
          case hi11n828 => (simp only [List.getElem?_toArray, List.getElem?_cons_succ, List.getElem?_cons_zero]; rfl)
          case hQ11n828 => exact fun _ _ _ h => h
          case hy11n828 => exact Or.inl ⟨by rfl, by (intro w hSw; (try dsimp only at hSw); go_simp; (try with_reducible rfl))⟩
          try simp only [Act.put, List.setIfInBounds_toArray, List.set_cons_zero, List.set_cons_succ]
          refine' wpAnyH_take (i := 12) (oi := _) (v := _) ?hi12n828 (by kernel_rfl) (by kernel_rfl) (by kernel_rfl) ?hQ12n828 ?hy12n828 (by assumption) ?rest12n828
          case hi12n828 => (simp only [List.getElem?_toArray, List.getElem?_cons_succ, List.getElem?_cons_zero]; rfl)
          case hQ12n828 => exact fun _ _ _ h => h
          case hy12n828 => exact Or.inl ⟨by rfl, by (intro w hSw; (try dsimp only at hSw); go_simp; (try with_reducible rfl))⟩
          try simp only [Act.put, List.setIfInBounds_toArray, List.set_cons_zero, List.set_cons_succ]
          refine' wpAnyH_take (i := 13) (oi := _) (v := _) ?hi13n828 (by kernel_rfl) (by kernel_rfl) (by kernel_rfl) ?hQ13n828 ?hy13n828 (by assumption) ?rest13n828
          case hi13n828 => (simp only [List.getElem?_toArray, List.getElem?_cons_succ, List.getElem?_cons_zero]; rfl)
          case hQ13n828 => exact fun _ _ _ h => h
          case hy13n828 => exact Or.inl ⟨by rfl, by (intro w hSw; (try dsimp only at hSw); go_simp; (try with_reducible rfl))⟩
          try simp only [Act.put, List.setIfInBounds_toArray, List.set_cons_zero, List.set_cons_succ]
          refine' wpAnyH_take (i := 14) (oi := _) (v := _) ?hi14n828 (by kernel_rfl) (by kernel_rfl) (by kernel_rfl) ?hQ14n828 ?hy14n828 (by assumption) ?rest14n828
          case hi14n828 => (simp only [List.getElem?_toArray, List.getElem?_cons_succ, List.getElem?_cons_zero]; rfl)
          case hQ14n828 => exact fun _ _ _ h => h
          case hy14n828 => exact Or.inl ⟨by rfl, by (intro w hSw; (try dsimp only at hSw); go_simp; (try with_reducible rfl))⟩
          try simp only [Act.put, List.setIfInBounds_toArray, List.set_cons_zero, List.set_cons_succ]
          refine' wpAnyH_take (i := 15) (oi := _) (v := _) ?hi15n828 (by kernel_rfl) (by kernel_rfl) (by kernel_rfl) ?hQ15n828 ?hy15n828 (by assumption) ?rest15n828
          case hi15n828 => (simp only [List.getElem?_toArray, List.getElem?_cons_succ, List.getElem?_cons_zero]; rfl)
          case hQ15n828 => exact fun _ _ _ h => h
          case hy15n828 => exact Or.inl ⟨by rfl, by (intro w hSw; (try dsimp only at hSw); go_simp; (try with_reducible rfl))⟩
          try simp only [Act.put, List.setIfInBounds_toArray, List.set_cons_zero, List.set_cons_succ]
          refine' wpAnyH_take (i := 16) (oi := _) (v := _) ?hi16n828 (by kernel_rfl) (by kernel_rfl) (by kernel_rfl) ?hQ16n828 ?hy16n828 (by assumption) ?rest16n828
          case hi16n828 => (simp only [List.getElem?_toArray, List.getElem?_cons_succ, List.getElem?_cons_zero]; rfl)
          case hQ16n828 => exact fun _ _ _ h => h
          case hy16n828 => exact Or.inl ⟨by rfl, by (intro w hSw; (try dsimp only at hSw); go_simp; (try with_reducible rfl))⟩
          try simp only [Act.put, List.setIfInBounds_toArray, List.set_cons_zero, List.set_cons_succ]
          refine' wpAnyH_take (i := 17) (oi := _) (v := _) ?hi17n828 (by kernel_rfl) (by kernel_rfl) (by kernel_rfl) ?hQ17n828 ?hy17n828 (by assumption) ?rest17n828
          case hi17n828 => (simp only [List.getElem?_toArray, List.getElem?_cons_succ, List.getElem?_cons_zero]; rfl)
          case hQ17n828 => exact fun _ _ _ h => h
          case hy17n828 => exact Or.inl ⟨by rfl, by (intro w hSw; (try dsimp only at hSw); go_simp; (try with_reducible rfl))⟩
          try simp only [Act.put, List.setIfInBounds_toArray, List.set_cons_zero, List.set_cons_succ]
          refine' wpAnyH_take (i := 18) (oi := _) (v := _) ?hi18n828 (by kernel_rfl) (by kernel_rfl) (by kernel_rfl) ?hQ18n828 ?hy18n828 (by assumption) ?rest18n828
          case hi18n828 => (simp only [List.getElem?_toArray, List.getElem?_cons_succ, List.getElem?_cons_zero]; rfl)
          case hQ18n828 => exact fun _ _ _ h => h
          case hy18n828 => exact Or.inl ⟨by rfl, by (intro w hSw; (try dsimp only at hSw); go_simp; (try with_reducible rfl))⟩
          try simp only [Act.put, List.setIfInBounds_toArray, List.set_cons_zero, List.set_cons_succ]
          refine' wpAnyH_take (i := 19) (oi := _) (v := _) ?hi19n828 (by kernel_rfl) (by kernel_rfl) (by kernel_rfl) ?hQ19n828 ?hy19n828 (by assumption) ?rest19n828
          case hi19n828 => (simp only [List.getElem?_toArray, List.getElem?_cons_succ, List.getElem?_cons_zero]; rfl)
          case hQ19n828 => exact fun _ _ _ h => h
          case hy19n828 => exact Or.inl ⟨by rfl, by (intro w hSw; (try dsimp only at hSw); go_simp; (try with_reducible rfl))⟩
          try simp only [Act.put, List.setIfInBounds_toArray, List.set_cons_zero, List.set_cons_succ]
          refine' wpAnyH_take (i := 20) (oi := _) (v := _) ?hi20n828 (by kernel_rfl) (by kernel_rfl) (by kernel_rfl) ?hQ20n828 ?hy20n828 (by assumption) ?rest20n828
          case hi20n828 => (simp only [List.getElem?_toArray, List.getElem?_cons_succ, List.getElem?_cons_zero]; rfl)
          case hQ20n828 => exact fun _ _ _ h => h
          case hy20n828 => exact Or.inl ⟨by rfl, by (intro w hSw; (try dsimp only at hSw); go_simp; (try with_reducible rfl))⟩
          try simp only [Act.put, List.setIfInBounds_toArray, List.set_cons_zero, List.set_cons_succ]
          refine' wpAnyH_take (i := 22) (oi := _) (v := _) ?hi22n828 (by kernel_rfl) (by kernel_rfl) (by kernel_rfl) ?hQ22n828 ?hy22n828 (by assumption) ?rest22n828
          case hi22n828 => (simp only [List.getElem?_toArray, List.getElem?_cons_succ, List.getElem?_cons_zero]; rfl)
          case hQ22n828 => exact fun _ _ _ h => h
          case hy22n828 => exact Or.inl ⟨by rfl, by (intro w hSw; (try dsimp only at hSw); go_simp; (try with_reducible rfl))⟩
          try simp only [Act.put, List.setIfInBounds_toArray, List.set_cons_zero, List.set_cons_succ]
          refine wpAnyH_ready (rs := [21]) (by kernel_rfl) (by simp) ?_
          refine AllReadyH.cons (by (simp only [List.getElem?_toArray, List.getElem?_cons_succ, List.getElem?_cons_zero]; rfl)) (fun K hK => ?_) AllReadyH.nil
          rw [if_pos (by rfl)]
          go_simp
          refine (S4'.out _ _ _ _ (Rd.of_own o21) (Rd.of_own o22)).mono ?_
          rintro e w20 ⟨rfl, b20⟩
          replace k3 := k3.below b20 k3.1
          replace k5 := k5.below b20 k5.1
          replace k21 := k21.below b20 k21.1
          replace o1 := own_below o1 b20 (own_lt o1)
          replace o2 := own_below o2 b20 (own_lt o2)
          replace o3 := own_below o3 b20 (own_lt o3)
          replace o4 := own_below o4 b20 (own_lt o4)
          replace o14 := own_below o14 b20 (own_lt o14)
          replace o21 := own_below o21 b20 (own_lt o21)
          replace o22 := own_below o22 b20 (own_lt o22)
          have zw20 := b20.size
          replace bb := bb.trans (b20.mono bb.size)
          clear b20
          have q0 := And.intro k5.four (And.intro k21.four (k3.four))
          dsimp only
          refine hK.out _ _ (by first | (dsimp only; exact q0) | exact q0) (fun hHeld => ?_)
          clear q0 hK K
          try simp only [Act.put, List.setIfInBounds_toArray, List.set_cons_zero, List.set_cons_succ]
          refine' wpAnyH_take (i := 23) (oi := _) (v := _) ?hi23n853 (by kernel_rfl) (by kernel_rfl) (by kernel_rfl) ?hQ23n853 ?hy23n853 (by assumption) ?rest23n853
          case hi23n853 => (simp only [List.getElem?_toArray, List.getElem?_cons_succ, List.getElem?_cons_zero]; rfl)
          case hQ23n853 => exact fun _ _ _ h => h
          case hy23n853 => exact Or.inl ⟨by rfl, by (intro w hSw; (try dsimp only at hSw); go_simp; (try with_reducible rfl))⟩
          try simp only [Act.put, List.setIfInBounds_toArray, List.set_cons_zero, List.set_cons_succ]
          refine' wpAnyH_take (i := 24) (oi := _) (v := _) ?hi24n853 (by kernel_rfl) (by kernel_rfl) (by kernel_rfl) ?hQ24n853 ?hy24n853 (by assumption) ?rest24n853
          case hi24n853 => (simp only [List.getElem?_toArray, List.getElem?_cons_succ, List.getElem?_cons_zero]; rfl)
          case hQ24n853 => exact fun _ _ _ h => h
          case hy24n853 => exact Or.inl ⟨by rfl, by (intro w hSw; (try dsimp only at hSw); go_simp; (try with_reducible rfl))⟩
          try simp only [Act.put, List.setIfInBounds_toArray, List.set_cons_zero, List.set_cons_succ]
          refine' wpAnyH_take (i := 25) (oi := _) (v := _) ?hi25n853 (by kernel_rfl) (by kernel_rfl) (by kernel_rfl) ?hQ25n853 ?hy25n853 (by assumption) ?rest25n853
          case hi25n853 => (simp only [List.getElem?_toArray, List.getElem?_cons_succ, List.getElem?_cons_zero]; rfl)
          case hQ25n853 => exact fun _ _ _ h => h
          case hy25n853 => exact Or.inl ⟨by rfl, by (intro w hSw; (try dsimp only at hSw); go_simp; (try with_reducible rfl))⟩
          try simp only [Act.put, List.setIfInBounds_toArray, List.set_cons_zero, List.set_cons_succ]
          refine' wpAnyH_take (i := 26) (oi := _) (v := _) ?hi26n853 (by kernel_rfl) (by kernel_rfl) (by kernel_rfl) ?hQ26n853 ?hy26n853 (by assumption) ?rest26n853
          case hi26n853 => (simp only [List.getElem?_toArray, List.getElem?_cons_succ, List.getElem?_cons_zero]; rfl)
          case hQ26n853 => exact fun _ _ _ h => h
          case hy26n853 => exact Or.inl ⟨by rfl, by (intro w hSw; (try dsimp only at hSw); go_simp; (try with_reducible rfl))⟩
          try simp only [Act.put, List.setIfInBounds_toArray, List.set_cons_zero, List.set_cons_succ]
          refine' wpAnyH_take (i := 27) (oi := _) (v := _) ?hi27n853 (by kernel_rfl) (by kernel_rfl) (by kernel_rfl) ?hQ27n853 ?hy27n853 (by assumption) ?rest27n853
          case hi27n853 => (simp only [List.getElem?_toArray, List.getElem?_cons_succ, List.getElem?_cons_zero]; rfl)
          case hQ27n853 => exact fun _ _ _ h => h
          case hy27n853 => exact Or.inl ⟨by rfl, by (intro w hSw; (try dsimp only at hSw); go_simp; (try with_reducible rfl))⟩
          try simp only [Act.put, List.setIfInBounds_toArray, List.set_cons_zero, List.set_cons_succ]
          refine' wpAnyH_take (i := 28) (oi := _) (v := _) ?hi28n853 (by kernel_rfl) (by kernel_rfl) (by kernel_rfl) ?hQ28n853 ?hy28n853 (by assumption) ?rest28n853
          case hi28n853 => (simp only [List.getElem?_toArray, List.getElem?_cons_succ, List.getElem?_cons_zero]; rfl)
          case hQ28n853 => exact fun _ _ _ h => h
          case hy28n853 => exact Or.inl ⟨by rfl, by (intro w hSw; (try dsimp only at hSw); go_simp; (try with_reducible rfl))⟩
          try simp only [Act.put, List.setIfInBounds_toArray, List.set_cons_zero, List.set_cons_succ]
          refine' wpAnyH_take (i := 29) (oi := _) (v := _) ?hi29n853 (by kernel_rfl) (by kernel_rfl) (by kernel_rfl) ?hQ29n853 ?hy29n853 (by assumption) ?rest29n853
          case hi29n853 => (simp only [List.getElem?_toArray, List.getElem?_cons_succ, List.getElem?_cons_zero]; rfl)
          case hQ29n853 => exact fun _ _ _ h => h
          case hy29n853 => exact Or.inl ⟨by rfl, by (intro w hSw; (try dsimp only at hSw); go_simp; (try with_reducible rfl))⟩
          try simp only [Act.put, List.setIfInBounds_toArray, List.set_cons_zero, List.set_cons_succ]
          refine' wpAnyH_take (i := 30) (oi := _) (v := _) ?hi30n853 (by kernel_rfl) (by kernel_rfl) (by kernel_rfl) ?hQ30n853 ?hy30n853 (by assumption) ?rest30n853
          case hi30n853 => (simp only [List.getElem?_toArray, List.getElem?_cons_succ, List.getElem?_cons_zero]; rfl)
          case hQ30n853 => exact fun _ _ _ h => h
          case hy30n853 => exact Or.inl ⟨by rfl, by (intro w hSw; (try dsimp only at hSw); go_simp; (try with_reducible rfl))⟩
          try simp only [Act.put, List.setIfInBounds_toArray, List.set_cons_zero, List.set_cons_succ]
          refine' wpAnyH_take (i := 31) (oi := _) (v := _) ?hi31n853 (by kernel_rfl) (by kernel_rfl) (by kernel_rfl) ?hQ31n853 ?hy31n853 (by assumption) ?rest31n853
          case hi31n853 => (simp only [List.getElem?_toArray, List.getElem?_cons_succ, List.getElem?_cons_zero]; rfl)
          case hQ31n853 => exact fun _ _ _ h => h
          case hy31n853 => exact Or.inl ⟨by rfl, by (intro w hSw; (try dsimp only at hSw); go_simp; (try with_reducible rfl))⟩
          try simp only [Act.put, List.setIfInBounds_toArray, List.set_cons_zero, List.set_cons_succ]
          refine' wpAnyH_take (i := 32) (oi := _) (v := _) ?hi32n853 (by kernel_rfl) (by kernel_rfl) (by kernel_rfl) ?hQ32n853 ?hy32n853 (by assumption) ?rest32n853
          case hi32n853 => (simp only [List.getElem?_toArray, List.getElem?_cons_succ, List.getElem?_cons_zero]; rfl)
          case hQ32n853 => exact fun _ _ _ h => h
          case hy32n853 => exact Or.inl ⟨by rfl, by (intro w hSw; (try dsimp only at hSw); go_simp; (try with_reducible rfl))⟩
          try simp only [Act.put, List.setIfInBounds_toArray, List.set_cons_zero, List.set_cons_succ]
          refine' wpAnyH_take (i := 33) (oi := _) (v := _) ?hi33n853 (by kernel_rfl) (by kernel_rfl) (by kernel_rfl) ?hQ33n853 ?hy33n853 (by assumption) ?rest33n853
          case hi33n853 => (simp only [List.getElem?_toArray, List.getElem?_cons_succ, List.getElem?_cons_zero]; rfl)
          case hQ33n853 => exact fun _ _ _ h => h
          case hy33n853 => exact Or.inl ⟨by rfl, by (intro w hSw; (try dsimp only at hSw); go_simp; (try with_reducible rfl))⟩
          try simp only [Act.put, List.setIfInBounds_toArray, List.set_cons_zero, List.set_cons_succ]
          refine' wpAnyH_take (i := 34) (oi := _) (v := _) ?hi34n853 (by kernel_rfl) (by kernel_rfl) (by kernel_rfl) ?hQ34n853 ?hy34n853 (by assumption) ?rest34n853
          case hi34n853 => (simp only [List.getElem?_toArray, List.getElem?_cons_succ, List.getElem?_cons_zero]; rfl)
          case hQ34n853 => exact fun _ _ _ h => h
          case hy34n853 => exact Or.inl ⟨by rfl, by (intro w hSw; (try dsimp only at hSw); go_simp; (try with_reducible rfl))⟩
          try simp only [Act.put, List.setIfInBounds_toArray, List.set_cons_zero, List.set_cons_succ]
          refine' wpAnyH_take (i := 35) (oi := _) (v := _) ?hi35n853 (by kernel_rfl) (by kernel_rfl) (by kernel_rfl) ?hQ35n853 ?hy35n853 (by assumption) ?rest35n853
          case hi35n853 => (simp only [List.getElem?_toArray, List.getElem?_cons_succ, List.getElem?_cons_zero]; rfl)
          case hQ35n853 => exact fun _ _ _ h => h
          case hy35n853 => exact Or.inl ⟨by rfl, by (intro w hSw; (try dsimp only at hSw); go_simp; (try with_reducible rfl))⟩
          try simp only [Act.put, List.setIfInBounds_toArray, List.set_cons_zero, List.set_cons_succ]
          refine' wpAnyH_take (i := 36) (oi := _) (v := _) ?hi36n853 (by kernel_rfl) (by kernel_rfl) (by kernel_rfl) ?hQ36n853 ?hy36n853 (by assumption) ?rest36n853
          case hi36n853 => (simp only [List.getElem?_toArray, List.getElem?_cons_succ, List.getElem?_cons_zero]; rfl)
          case hQ36n853 => exact fun _ _ _ h => h
          case hy36n853 => exact Or.inl ⟨by rfl, by (intro w hSw; (try dsimp only at hSw); go_simp; (try with_reducible rfl))⟩
          try simp only [Act.put, List.setIfInBounds_toArray, List.set_cons_zero, List.set_cons_succ]
          refine' wpAnyH_take (i := 37) (oi := _) (v := _) ?hi37n853 (by kernel_rfl) (by kernel_rfl) (by kernel_rfl) ?hQ37n853 ?hy37n853 (by assumption) ?rest37n853
          case hi37n853 => (simp only [List.getElem?_toArray, List.getElem?_cons_succ, List.getElem?_cons_zero]; rfl)
          case hQ37n853 => exact fun _ _ _ h => h
          case hy37n853 => exact Or.inl ⟨by rfl, by (intro w hSw; (try dsimp only at hSw); go_simp; (try with_reducible rfl))⟩
          try simp only [Act.put, List.setIfInBounds_toArray, List.set_cons_zero, List.set_cons_succ]
          refine' wpAnyH_take (i := 38) (oi := _) (v := _) ?hi38n853 (by kernel_rfl) (by kernel_rfl) (by kernel_rfl) ?hQ38n853 ?hy38n853 (by assumption) ?rest38n853
          case hi38n853 => (simp only [List.getElem?_toArray, List.getElem?_cons_succ, List.getElem?_cons_zero]; rfl)
          case hQ38n853 => exact fun _ _ _ h => h
          case hy38n853 => exact Or.inl ⟨by rfl, by (intro w hSw; (try dsimp only at hSw); go_simp; (try with_reducible rfl))⟩
          try simp only [Act.put, List.setIfInBounds_toArray, List.set_cons_zero, List.set_cons_succ]
          refine' wpAnyH_take (i := 39) (oi := _) (v := _) ?hi39n853 (by kernel_rfl) (by kernel_rfl) (by kernel_rfl) ?hQ39n853 ?hy39n853 (by assumption) ?rest39n853
          case hi39n853 => (simp only [List.getElem?_toArray, List.getElem?_cons_succ, List.getElem?_cons_zero]; rfl)
          case hQ39n853 => exact fun _ _ _ h => h
          case hy39n853 => exact Or.inl ⟨by rfl, by (intro w hSw; (try dsimp only at hSw); go_simp; (try with_reducible rfl))⟩
          try simp only [Act.put, List.setIfInBounds_toArray, List.set_cons_zero, List.set_cons_succ]
          refine' wpAnyH_take (i := 40) (oi := _) (v := _) ?hi40n853 (by kernel_rfl) (by kernel_rfl) (by kernel_rfl) ?hQ40n853 ?hy40n853 (by assumption) ?rest40n853
          case hi40n853 => (simp only [List.getElem?_toArray, List.getElem?_cons_succ, List.getElem?_cons_zero]; rfl)
          case hQ40n853 => exact fun _ _ _ h => h
          case hy40n853 => exact Or.inl ⟨by rfl, by (intro w hSw; (try dsimp only at hSw); go_simp; (try with_reducible rfl))⟩
          try simp only [Act.put, List.setIfInBounds_toArray, List.set_cons_zero, List.set_cons_succ]
          refine' wpAnyH_take (i := 41) (oi := _) (v := _) ?hi41n853 (by kernel_rfl) (by kernel_rfl) (by kernel_rfl) ?hQ41n853 ?hy41n853 (by assumption) ?rest41n853
          case hi41n853 => (simp only [List.getElem?_toArray, List.getElem?_cons_succ, List.getElem?_cons_zero]; rfl)
          case hQ41n853 => exact fun _ _ _ h => h
          case hy41n853 => exact Or.inl ⟨by rfl, by (intro w hSw; (try dsimp only at hSw); go_simp; (try with_reducible rfl))⟩
          try simp only [Act.put, List.setIfInBounds_toArray, List.set_cons_zero, List.set_cons_succ]
          refine' wpAnyH_take (i := 42) (oi := _) (v := _) ?hi42n853 (by kernel_rfl) (by kernel_rfl) (by kernel_rfl) ?hQ42n853 ?hy42n853 (by assumption) ?rest42n853
          case hi42n853 => (simp only [List.getElem?_toArray, List.getElem?_cons_succ, List.getElem?_cons_zero]; rfl)
          case hQ42n853 => exact fun _ _ _ h => h
          case hy42n853 => exact Or.inl ⟨by rfl, by (intro w hSw; (try dsimp only at hSw); go_simp; (try with_reducible rfl))⟩
          try simp only [Act.put, List.setIfInBounds_toArray, List.set_cons_zero, List.set_cons_succ]
          refine' wpAnyH_take (i := 44) (oi := _) (v := _) ?hi44n853 (by kernel_rfl) (by kernel_rfl) (by kernel_rfl) ?hQ44n853 ?hy44n853 (by assumption) ?rest44n853
          case hi44n853 => (simp only [List.getElem?_toArray, List.getElem?_cons_succ, List.getElem?_cons_zero]; rfl)
          case hQ44n853 => exact fun _ _ _ h => h
          case hy44n853 => exact Or.inl ⟨by rfl, by (intro w hSw; (try dsimp only at hSw); go_simp; (try with_reducible rfl))⟩
          try simp only [Act.put, List.setIfInBounds_toArray, List.set_cons_zero, List.set_cons_succ]
          refine wpAnyH_ready (rs := [43]) (by kernel_rfl) (by simp) ?_
          refine AllReadyH.cons (by (simp only [List.getElem?_toArray, List.getElem?_cons_succ, List.getElem?_cons_zero]; rfl)) (fun K hK => ?_) AllReadyH.nil
          rw [if_pos (by rfl)]
          go_simp
          refine (M3'.out _ _ _ (Rd.of_own o3)).mono ?_
          rintro e w21 ⟨rfl, b21⟩
          replace k3 := k3.below b21 k3.1
          replace k5 := k5.below b21 k5.1
          replace k21 := k21.below b21 k21.1
          replace o1 := own_below o1 b21 (own_lt o1)
          replace o2 := own_below o2 b21 (own_lt o2)
          replace o3 := own_below o3 b21 (own_lt o3)
          replace o4 := own_below o4 b21 (own_lt o4)
          replace o14 := own_below o14 b21 (own_lt o14)
          replace o21 := own_below o21 b21 (own_lt o21)
          replace o22 := own_below o22 b21 (own_lt o22)
          have zw21 := b21.size
          replace bb := bb.trans (b21.mono bb.size)
          clear b21
          have q0 := And.intro k5.four (And.intro k21.four (k3.four))
          dsimp only
          refine hK.out _ _ (by first | (dsimp only; exact q0) | exact q0) (fun hHeld => ?_)
          clear q0 hK K
          try simp only [Act.put, List.setIfInBounds_toArray, List.set_cons_zero, List.set_cons_succ]
          refine wpAnyH_ready (rs := [45]) (by kernel_rfl) (by simp) ?_
          refine AllReadyH.cons (by (simp only [List.getElem?_toArray, List.getElem?_cons_succ, List.getElem?_cons_zero]; rfl)) (fun K hK => ?_) AllReadyH.nil
          rw [if_pos (by rfl)]
          go_simp
          refine (M1'.out _ _ _ (Rd.of_own o1)).mono ?_
          rintro e w22 ⟨rfl, b22⟩
          replace k3 := k3.below b22 k3.1
          replace k5 := k5.below b22 k5.1
          replace k21 := k21.below b22 k21.1
          replace o1 := own_below o1 b22 (own_lt o1)
          replace o2 := own_below o2 b22 (own_lt o2)
          replace o3 := own_below o3 b22 (own_lt o3)
          replace o4 := own_below o4 b22 (own_lt o4)
          replace o14 := own_below o14 b22 (own_lt o14)
          replace o21 := own_below o21 b22 (own_lt o21)
          replace o22 := own_below o22 b22 (own_lt o22)
          have zw22 := b22.size
          replace bb := bb.trans (b22.mono bb.size)
          clear b22
          have q0 := And.intro k5.four (And.intro k21.four (k3.four))
          dsimp only
          refine hK.out _ _ (by first | (dsimp only; exact q0) | exact q0) (fun hHeld => ?_)
          clear q0 hK K
          try simp only [Act.put, List.setIfInBounds_toArray, List.set_cons_zero, List.set_cons_succ]
          refine' wpAnyH_take (i := 46) (oi := _) (v := _) ?hi46n902 (by kernel_rfl) (by kernel_rfl) (by kernel_rfl) ?hQ46n902 ?hy46n902 (by assumption) ?rest46n902
          case hi46n902 => (simp only [List.getElem?_toArray, List.getElem?_cons_succ, List.getElem?_cons_zero]; rfl)
          case hQ46n902 => exact fun _ _ _ h => h
          case hy46n902 => exact Or.inl ⟨by rfl, by (intro w hSw; (try dsimp only at hSw); go_simp; (try with_reducible rfl))⟩
          try simp only [Act.put, List.setIfInBounds_toArray, List.set_cons_zero, List.set_cons_succ]
          refine' wpAnyH_take (i := 47) (oi := _) (v := _) ?hi47n902 (by kernel_rfl) (by kernel_rfl) (by kernel_rfl) ?hQ47n902 ?hy47n902 (by assumption) ?rest47n902
          case hi47n902 => (simp only [List.getElem?_toArray, List.getElem?_cons_succ, List.getElem?_cons_zero]; rfl)
          case hQ47n902 => exact fun _ _ _ h => h
          case hy47n902 => exact Or.inl ⟨by rfl, by (intro w hSw; (try dsimp only at hSw); go_simp; (try with_reducible rfl))⟩
          try simp only [Act.put, List.setIfInBounds_toArray, List.set_cons_zero, List.set_cons_succ]
          refine' wpAnyH_take (i := 48) (oi := _) (v := _) ?hi48n902 (by kernel_rfl) (by kernel_rfl) (by kernel_rfl) ?hQ48n902 ?hy48n902 (by assumption) ?rest48n902
          case hi48n902 => (simp only [List.getElem?_toArray, List.getElem?_cons_succ, List.getElem?_cons_zero]; rfl)
          case hQ48n902 => exact fun _ _ _ h => h
          case hy48n902 => exact Or.inl ⟨by rfl, by (intro w hSw; (try dsimp only at hSw); go_simp; (try with_reducible rfl))⟩
          try simp only [Act.put, List.setIfInBounds_toArray, List.set_cons_zero, List.set_cons_succ]
          refine wpAnyH_done (by kernel_rfl) ?_ _
          clear hHeld
          go_wp2
          go_ret
          exact ⟨rfl, bb⟩

set_option maxRecDepth 100000 in
theorem lifted (os : Os) (started : os.Started) (H : Type) (enc : TypeId × Value → H) :
    ReturnsInHanded {} Try.checked os 4 .any (Rows.fnMovedSpec.pre6 enc Try.prog Try.f4 Rows.fnMovedRow.domain false) (Rows.fnMovedSpec.post enc Try.prog Try.f4 false true false false) := by
  refine returnsInHanded_of_change (C := Try.checked) own started (by kernel_rfl) Try.func4
    (ChangeSpec.witness6 (enc := enc) (C := Try.checked) false ⟨#[], #[.slice none 0 0], []⟩ 8 (by kernel_rfl) (by kernel_rfl) (by kernel_rfl) (by kernel_rfl)) ?_
  intro W base args ds gs before hval0 hW hcnd _
  have hval : ∀ (j : Nat) t v, Try.f4.params[j]? = some t → args[j]? = some v → Value.okWide Try.prog W .any base t v := hval0
  have hW' := hW
  obtain ⟨p, q, hA0, hV, rfl, hfz, hnd⟩ := hW
  have hA : DataW.TrodAll enc Try.prog W 0 (fun _ => true) true Try.f4.params.toList args.toList ds p := hA0
  rw [Try.params4] at hA hval
  obtain ⟨v0, vs0, d0, ds0, p0, q0, hargs, rfl, rfl, h0, t0⟩ := trodAll_cons hA
  obtain ⟨rfl, rfl, rfl⟩ := trodAll_nil t0
  obtain rfl : args = #[v0] := by cases args; simp_all
  obtain ⟨rfl, rfl⟩ := trodVars_none hV
  have k0 := h0
  have lt0 : ∀ x ∈ p0, x.block < W.heap.size := by obtain ⟨m, hm⟩ := k0; exact DataW.trod_lt m _ _ _ hm
  obtain ⟨s0, l0, c0, rfl⟩ := okWide_slice Try.underlying22 (hval 0 22 v0 rfl rfl)
  obtain ⟨g0, hf0⟩ := h0
  obtain ⟨z0, r0, i0⟩ := bytes_rd Try.underlying22 Try.underlying5 (by kernel_rfl) (by simpa [Value.cells] using hf0)
  clear hA0 hval0
  refine (walk W _ z0 r0 i0).mono fun e W' ⟨he, bel⟩ => ?_
  subst he
  exact ⟨_, rfl, _, _, _, [], _, [], hW', trodAll_mk1 (shut_bool Try.underlying4 _), (trodAll_cons_mk (Below.trod laidOut (by kernel_rfl) (of_decide_eq_true (by kernel_rfl)) k0 bel lt0) trodAll_mk0), rfl, bel.frame _, fun h => by cases h⟩

theorem over : Rows.fnMovedRow.holds Try.pinned (OpenSpec.ofChange Rows.fnMovedSpec) :=
  OpenClaim.holds_of_wide 4 Try.f4 rfl rfl rfl rfl rfl rfl rfl ⟨rfl, rfl, rfl, rfl, rfl⟩ rfl rfl rfl rfl rfl (by kernel_rfl) Try.func4 (by kernel_rfl)
    (of_decide_eq_true (by kernel_rfl)) (by unfold Func.isWrapper; first | (rw [if_pos (by decide +kernel)]; kernel_rfl) | (rw [if_neg (by decide +kernel)]; exact ⟨rfl, rfl⟩))
    (fun os started H enc _ => lifted os started H enc)

theorem proved : Rows.FnMovedSaid := over
end Go.Proofs.Ytmcoidnonmmpjaa.fnMoved
