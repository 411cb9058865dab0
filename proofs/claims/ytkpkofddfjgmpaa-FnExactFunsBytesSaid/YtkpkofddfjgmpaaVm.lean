/- Machines: szVm, eqVm. -/
import Derived.Test.YtkpkofddfjgmpaaFunsZ
import Derived.Test.YtkpkofddfjgmpaaFunsE
import Derived.Test.YtkpkofddfjgmpaaOwnH
import Derived.Test.YtkpkofddfjgmpaaCalls
import Derived.Test.YtkpkofddfjgmpaaHeapNew
namespace Go.Proofs.Ytkpkofddfjgmpaa
open Go.RowKit
set_option linter.unusedVariables false

structure VmL where
  fs : List F2
  zs : List Int
  h : Int
  b : Int
  n : Int
  ss : List Int
  cs : List O3
  os : List Int
  code : Int
  each : Bool
/-- a machine reads as L. -/
structure RdV (B : Nat) (w : World) (fv hv sv cv ov : Value) (L : VmL) : Prop where
  f : RdF B w fv L.fs
  z : Rd B .i64 w hv L.zs
  s : Rd B .i64 w sv L.ss
  c : RdO B w cv L.cs
  o : Rd B .i64 w ov L.os
theorem RdV.below' {B : Nat} {w w' : World} {fv hv sv cv ov : Value} {L : VmL} (h : RdV B w fv hv sv cv ov L) (hb : Below w.heap.size w w') : RdV w.heap.size w' fv hv sv cv ov L :=
  ⟨h.f.below' hb, h.z.below' hb, h.s.below' hb, RdE.below' h.c hb, h.o.below' hb⟩
theorem RdV.below {B B' : Nat} {w w' : World} {fv hv sv cv ov : Value} {L : VmL} (h : RdV B w fv hv sv cv ov L) (hb : Below B' w w') (hB : B ≤ B') : RdV B w' fv hv sv cv ov L :=
  ⟨h.f.below hb hB, h.z.below hb hB, h.s.below hb hB, RdE.below h.c hb hB, h.o.below hb hB⟩
def vmV (fv hv sv cv ov : Value) (L : VmL) : Value := .agg #[fv, hv, .int .i64 L.h, .int .i64 L.b, .int .i64 L.n, sv, cv, ov, .int .i64 L.code, .bool L.each]
def vmSz (L : VmL) : Nat := (L.fs.length + tot L.fs) + L.zs.length + L.ss.length + L.cs.length + L.os.length
theorem szOf_add {m n : Nat} {left : Int} (h : 0 ≤ szOf m left) : szOf n (szOf m left) = szOf (m + n) left := by
  unfold szOf at h ⊢
  split at h
  · omega
  · rename_i h1
    rw [if_neg h1]
    split <;> split <;> omega
theorem szOf_neg {m n : Nat} {left : Int} (h : szOf m left < 0) (hmn : m ≤ n) : szOf n left = -1 := by
  unfold szOf at h ⊢
  split at h
  · rw [if_pos (by omega)]
  · omega
theorem szOf_le {m : Nat} {left : Int} (h : 0 ≤ left) : szOf m left ≤ left := by
  unfold szOf
  split <;> omega

set_option maxHeartbeats 800000 in
set_option maxRecDepth 100000 in
theorem szVm_any {B : Nat} (fv hv sv cv ov : Value) (L : VmL) (left : Int) (w : World) (hr : RdV B w fv hv sv cv ov L) (h0 : 0 ≤ left) (h1 : left ≤ 4611686018427387904) :
    Calls Try.prog 33 #[vmV fv hv sv cv ov L, .int .i64 left] w fun e w' => e = .returned (.int .i64 (szOf (vmSz L) left)) ∧ Below w.heap.size w w' := by
  obtain ⟨fs, zs, h, b, n, ss, cs, os, code, each⟩ := L
  have HR := Lib.hid (fun (W : World) (hb : Below w.heap.size w W) => hr.below' hb)
  obtain ⟨fa, fc, rfl⟩ := hr.f.form
  obtain ⟨ha, hc, rfl⟩ := hr.z.form
  obtain ⟨sa, sc, rfl⟩ := hr.s.form
  obtain ⟨ca, cc, rfl⟩ := hr.c.form
  obtain ⟨oa, oc, rfl⟩ := hr.o.form
  clear hr
  unfold vmV vmSz
  dsimp only
  obtain ⟨m1, hm1⟩ : ∃ m, fs.length + tot fs = m := ⟨_, rfl⟩
  obtain ⟨Z1, hZ1⟩ : ∃ Z, szOf m1 left = Z := ⟨_, rfl⟩
  obtain ⟨Z2, hZ2⟩ : ∃ Z, szOf (m1 + zs.length) left = Z := ⟨_, rfl⟩
  obtain ⟨Z3, hZ3⟩ : ∃ Z, szOf (m1 + zs.length + ss.length) left = Z := ⟨_, rfl⟩
  obtain ⟨Z4, hZ4⟩ : ∃ Z, szOf (m1 + zs.length + ss.length + cs.length) left = Z := ⟨_, rfl⟩
  obtain ⟨Z5, hZ5⟩ : ∃ Z, szOf (m1 + zs.length + ss.length + cs.length + os.length) left = Z := ⟨_, rfl⟩
  have f1 := fun (W : World) (hb : Below w.heap.size w W) => szFunS_any _ fs left W (HR.out W hb).f (by omega) h1
  dsimp only at f1
  rw [hm1, hZ1] at f1
  rw [hm1, hZ5]
  have n1 : Z1 < 0 → Z5 = -1 := fun h => by rw [← hZ5]; exact szOf_neg (hZ1 ▸ h) (by omega)
  have n2 : Z2 < 0 → Z5 = -1 := fun h => by rw [← hZ5]; exact szOf_neg (hZ2 ▸ h) (by omega)
  have n3 : Z3 < 0 → Z5 = -1 := fun h => by rw [← hZ5]; exact szOf_neg (hZ3 ▸ h) (by omega)
  have n4 : Z4 < 0 → Z5 = -1 := fun h => by rw [← hZ5]; exact szOf_neg (hZ4 ▸ h) (by omega)
  have n5 : Z5 < 0 → Z5 = -1 := fun h => by rw [← hZ5]; exact szOf_neg (hZ5 ▸ h) (Nat.le_refl _)
  have l1 : Z1 ≤ left := hZ1 ▸ szOf_le h0
  have l2 : Z2 ≤ left := hZ2 ▸ szOf_le h0
  have l3 : Z3 ≤ left := hZ3 ▸ szOf_le h0
  have l4 : Z4 ≤ left := hZ4 ▸ szOf_le h0
  have a2 : 0 ≤ Z1 → szOf zs.length Z1 = Z2 := fun h => by rw [← hZ1] at h ⊢; rw [szOf_add h, hZ2]
  have a3 : 0 ≤ Z2 → szOf ss.length Z2 = Z3 := fun h => by rw [← hZ2] at h ⊢; rw [szOf_add h, hZ3]
  have a4 : 0 ≤ Z3 → szOf cs.length Z3 = Z4 := fun h => by rw [← hZ3] at h ⊢; rw [szOf_add h, hZ4]
  have a5 : 0 ≤ Z4 → szOf os.length Z4 = Z5 := fun h => by rw [← hZ4] at h ⊢; rw [szOf_add h, hZ5]
  have F1 := Lib.hid f1
  have F2 := Lib.hid (fun (W : World) (hb : Below w.heap.size w W) (hz : 0 ≤ Z1) => (by have := szHeap_any _ zs h b n Z1 W (HR.out W hb).z (by omega) (by omega); rw [a2 hz] at this; exact this : Calls Try.prog 72 _ W _))
  have F3 := Lib.hid (fun (W : World) (hb : Below w.heap.size w W) (hz : 0 ≤ Z2) => (by have := szIntS_any _ ss Z2 W (HR.out W hb).s (by omega) (by omega); rw [a3 hz] at this; exact this : Calls Try.prog 73 _ W _))
  have F4 := Lib.hid (fun (W : World) (hb : Below w.heap.size w W) (hz : 0 ≤ Z3) => (by have := szCallS_any _ cs Z3 W (HR.out W hb).c (by omega) (by omega); rw [a4 hz] at this; exact this : Calls Try.prog 74 _ W _))
  have F5 := Lib.hid (fun (W : World) (hb : Below w.heap.size w W) (hz : 0 ≤ Z4) => (by have := szIntS_any _ os Z4 W (HR.out W hb).o (by omega) (by omega); rw [a5 hz] at this; exact this : Calls Try.prog 73 _ W _))
  have N1 := Lib.hid n1
  have N2 := Lib.hid n2
  have N3 := Lib.hid n3
  have N4 := Lib.hid n4
  have N5 := Lib.hid n5
  clear f1 n1 n2 n3 n4 n5 a2 a3 a4 a5 hm1 hZ1 hZ2 hZ3 hZ4 hZ5
  go_enter Try.func33, Try.ntmps33
  go_wp2_with fail
  generalize hx : w.alloc _ = x
  obtain ⟨bb, k1⟩ := Bx.alloc hx
  clear hx
  have ck1 := k1.2.1
  have yk1 := k1.1
  go_wp2_with fail
  refine (F1.out _ bb).mono ?_
  rintro e w1 ⟨rfl, b1⟩
  clear ck1 yk1
  replace k1 := k1.below b1 k1.1
  replace bb := bb.trans (b1.mono bb.size)
  clear b1
  by_cases z1 : Z1 < 0
  · go_wp2
    go_ret
    exact ⟨ret_int (N1.out z1).symm, bb⟩
  have ck1 := k1.2.1
  have yk1 := k1.1
  go_wp2_with fail
  refine (F2.out _ bb (by omega)).mono ?_
  rintro e w2 ⟨rfl, b2⟩
  clear ck1 yk1
  replace k1 := k1.below b2 k1.1
  replace bb := bb.trans (b2.mono bb.size)
  clear b2
  by_cases z2 : Z2 < 0
  · go_wp2
    go_ret
    exact ⟨ret_int (N2.out z2).symm, bb⟩
  have ck1 := k1.2.1
  have yk1 := k1.1
  go_wp2_with fail
  refine (F3.out _ bb (by omega)).mono ?_
  rintro e w3 ⟨rfl, rfl⟩
  by_cases z3 : Z3 < 0
  · go_wp2
    go_ret
    exact ⟨ret_int (N3.out z3).symm, bb⟩
  go_wp2_with fail
  refine (F4.out _ bb (by omega)).mono ?_
  rintro e w4 ⟨rfl, rfl⟩
  by_cases z4 : Z4 < 0
  · go_wp2
    go_ret
    exact ⟨ret_int (N4.out z4).symm, bb⟩
  go_wp2_with fail
  refine (F5.out _ bb (by omega)).mono ?_
  rintro e w5 ⟨rfl, rfl⟩
  by_cases z5 : Z5 < 0
  · go_wp2
    go_ret
    exact ⟨ret_int (N5.out z5).symm, bb⟩
  go_wp2
  go_ret
  exact ⟨rfl, bb⟩

set_option maxHeartbeats 800000 in
set_option maxRecDepth 100000 in
theorem eqVm_same {B1 B2 : Nat} (fv hv sv cv ov fv' hv' sv' cv' ov' : Value) (L : VmL) (w : World) (ra : RdV B1 w fv hv sv cv ov L) (rb : RdV B2 w fv' hv' sv' cv' ov' L) :
    Calls Try.prog 37 #[vmV fv hv sv cv ov L, vmV fv' hv' sv' cv' ov' L] w fun e w' => e = .returned (.bool true) ∧ Below w.heap.size w w' := by
  obtain ⟨fs, zs, h, b, n, ss, cs, os, code, each⟩ := L
  have RA := Lib.hid (fun (W : World) (hb : Below w.heap.size w W) => ra.below' hb)
  have RB := Lib.hid (fun (W : World) (hb : Below w.heap.size w W) => rb.below' hb)
  obtain ⟨fa, fc, rfl⟩ := ra.f.form
  obtain ⟨ha, hc, rfl⟩ := ra.z.form
  obtain ⟨sa, sc, rfl⟩ := ra.s.form
  obtain ⟨ca, cc, rfl⟩ := ra.c.form
  obtain ⟨oa, oc, rfl⟩ := ra.o.form
  obtain ⟨fa', fc', rfl⟩ := rb.f.form
  obtain ⟨ha', hc', rfl⟩ := rb.z.form
  obtain ⟨sa', sc', rfl⟩ := rb.s.form
  obtain ⟨ca', cc', rfl⟩ := rb.c.form
  obtain ⟨oa', oc', rfl⟩ := rb.o.form
  clear ra rb
  unfold vmV
  dsimp only
  have hkk : (each != each) = false := by cases each <;> rfl
  have F1 := Lib.hid (fun (W : World) (hb : Below w.heap.size w W) => eqFunS_same _ _ fs W (RA.out W hb).f (RB.out W hb).f)
  have F2 := Lib.hid (fun (W : World) (hb : Below w.heap.size w W) => eqHeap_same _ _ zs h b n W (RA.out W hb).z (RB.out W hb).z)
  have F3 := Lib.hid (fun (W : World) (hb : Below w.heap.size w W) => (eqIntS_any _ _ ss ss W (RA.out W hb).s (RB.out W hb).s).mono (fun e w' h => (⟨h.1.trans (ret_bool (decide_eq_true rfl)), h.2.below _⟩ : e = .returned (.bool true) ∧ Below W.heap.size W w')))
  have F4 := Lib.hid (fun (W : World) (hb : Below w.heap.size w W) => (eqCallS_any _ _ cs cs W (RA.out W hb).c (RB.out W hb).c).mono (fun e w' h => (⟨h.1.trans (ret_bool (decide_eq_true rfl)), h.2⟩ : e = .returned (.bool true) ∧ Below W.heap.size W w')))
  have F5 := Lib.hid (fun (W : World) (hb : Below w.heap.size w W) => (eqIntS_any _ _ os os W (RA.out W hb).o (RB.out W hb).o).mono (fun e w' h => (⟨h.1.trans (ret_bool (decide_eq_true rfl)), h.2.below _⟩ : e = .returned (.bool true) ∧ Below W.heap.size W w')))
  go_enter Try.func37, Try.ntmps37
  go_wp2_with fail
  generalize hx : (w.alloc _).alloc _ = x
  obtain ⟨bb, k1, k2, sx⟩ := alloc_two hx
  clear hx
  have ck1 := k1.2.1
  have yk1 := k1.1
  have ck2 := k2.2.1
  have yk2 := k2.1
  go_wp2_with fail
  refine (F1.out _ bb).mono ?_
  rintro e w1 ⟨rfl, b1⟩
  clear ck1 yk1 ck2 yk2
  replace k1 := k1.below b1 k1.1
  replace k2 := k2.below b1 k2.1
  replace bb := bb.trans (b1.mono bb.size)
  clear b1
  have ck1 := k1.2.1
  have yk1 := k1.1
  have ck2 := k2.2.1
  have yk2 := k2.1
  go_wp2_with fail
  refine (F2.out _ bb).mono ?_
  rintro e w2 ⟨rfl, b2⟩
  clear ck1 yk1 ck2 yk2
  replace k1 := k1.below b2 k1.1
  replace k2 := k2.below b2 k2.1
  replace bb := bb.trans (b2.mono bb.size)
  clear b2
  have ck1 := k1.2.1
  have yk1 := k1.1
  have ck2 := k2.2.1
  have yk2 := k2.1
  go_wp2_with fail
  refine (F3.out _ bb).mono ?_
  rintro e w3 ⟨rfl, b3⟩
  clear ck1 yk1 ck2 yk2
  replace k1 := k1.below b3 k1.1
  replace k2 := k2.below b3 k2.1
  replace bb := bb.trans (b3.mono bb.size)
  clear b3
  have ck1 := k1.2.1
  have yk1 := k1.1
  have ck2 := k2.2.1
  have yk2 := k2.1
  go_wp2_with fail
  refine (F4.out _ bb).mono ?_
  rintro e w4 ⟨rfl, b4⟩
  clear ck1 yk1 ck2 yk2
  replace k1 := k1.below b4 k1.1
  replace k2 := k2.below b4 k2.1
  replace bb := bb.trans (b4.mono bb.size)
  clear b4
  have ck1 := k1.2.1
  have yk1 := k1.1
  have ck2 := k2.2.1
  have yk2 := k2.1
  go_wp2_with fail
  refine (F5.out _ bb).mono ?_
  rintro e w5 ⟨rfl, b5⟩
  clear ck1 yk1 ck2 yk2
  replace k1 := k1.below b5 k1.1
  replace k2 := k2.below b5 k2.1
  replace bb := bb.trans (b5.mono bb.size)
  clear b5
  have ck1 := k1.2.1
  have yk1 := k1.1
  have ck2 := k2.2.1
  have yk2 := k2.1
  go_wp2
  go_ret
  exact ⟨rfl, bb⟩

end Go.Proofs.Ytkpkofddfjgmpaa
