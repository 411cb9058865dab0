/- Machines: szVm, eqVm. -/
import Derived.Test.YtlkdlcpfcacigaaMgFunE
import Derived.Test.YtlkdlcpfcacigaaOwnH
import Derived.Test.YtlkdlcpfcacigaaCalls
import Derived.Test.YtlkdlcpfcacigaaHeapNew
namespace Go.Proofs.Ytlkdlcpfcacigaa
open Go.RowKit
set_option linter.unusedVariables false

structure VmL where
  fs : List F2
  zs : List Int
  h : Int
  b : Int
  n : Int
  ss : List Int
  cs : List O3
  os : List Int
  code : Int
  each : Bool
/-- a machine reads as L. -/
structure RdV (B : Nat) (w : World) (fv hv sv cv ov : Value) (L : VmL) : Prop where
  f : RdF B w fv L.fs
  z : Rd B .i64 w hv L.zs
  s : Rd B .i64 w sv L.ss
  c : RdO B w cv L.cs
  o : Rd B .i64 w ov L.os
theorem RdV.below' {B : Nat} {w w' : World} {fv hv sv cv ov : Value} {L : VmL} (h : RdV B w fv hv sv cv ov L) (hb : Below w.heap.size w w') : RdV w.heap.size w' fv hv sv cv ov L :=
  ⟨h.f.below' hb, h.z.below' hb, h.s.below' hb, RdE.below' h.c hb, h.o.below' hb⟩
theorem RdV.below {B B' : Nat} {w w' : World} {fv hv sv cv ov : Value} {L : VmL} (h : RdV B w fv hv sv cv ov L) (hb : Below B' w w') (hB : B ≤ B') : RdV B w' fv hv sv cv ov L :=
  ⟨h.f.below hb hB, h.z.below hb hB, h.s.below hb hB, RdE.below h.c hb hB, h.o.below hb hB⟩
def vmV (fv hv sv cv ov : Value) (L : VmL) : Value := .agg #[fv, hv, .int .i64 L.h, .int .i64 L.b, .int .i64 L.n, sv, cv, ov, .int .i64 L.code, .bool L.each]
def vmSz (L : VmL) : Nat := (L.fs.length + tot L.fs) + L.zs.length + L.ss.length + L.cs.length + L.os.length
theorem szOf_add {m n : Nat} {left : Int} (h : 0 ≤ szOf m left) : szOf n (szOf m left) = szOf (m + n) left := by
  unfold szOf at h ⊢
  split at h
  · omega
  · rename_i h1
    rw [if_neg h1]
    split <;> split <;> omega
theorem szOf_neg {m n : Nat} {left : Int} (h : szOf m left < 0) (hmn : m ≤ n) : szOf n left = -1 := by
  unfold szOf at h ⊢
  split at h
  · rw [if_pos (by omega)]
  · omega
theorem szOf_le {m : Nat} {left : Int} (h : 0 ≤ left) : szOf m left ≤ left := by
  unfold szOf
  split <;> omega

set_option maxHeartbeats 800000 in
set_option maxRecDepth 100000 in
theorem eqVm_same {B1 B2 : Nat} (fv hv sv cv ov fv' hv' sv' cv' ov' : Value) (L : VmL) (w : World) (ra : RdV B1 w fv hv sv cv ov L) (rb : RdV B2 w fv' hv' sv' cv' ov' L) :
    Calls Try.prog 8 #[vmV fv hv sv cv ov L, vmV fv' hv' sv' cv' ov' L] w fun e w' => e = .returned (.bool true) ∧ Below w.heap.size w w' := by
  obtain ⟨fs, zs, h, b, n, ss, cs, os, code, each⟩ := L
  have RA := Lib.hid (fun (W : World) (hb : Below w.heap.size w W) => ra.below' hb)
  have RB := Lib.hid (fun (W : World) (hb : Below w.heap.size w W) => rb.below' hb)
  obtain ⟨fa, fc, rfl⟩ := ra.f.form
  obtain ⟨ha, hc, rfl⟩ := ra.z.form
  obtain ⟨sa, sc, rfl⟩ := ra.s.form
  obtain ⟨ca, cc, rfl⟩ := ra.c.form
  obtain ⟨oa, oc, rfl⟩ := ra.o.form
  obtain ⟨fa', fc', rfl⟩ := rb.f.form
  obtain ⟨ha', hc', rfl⟩ := rb.z.form
  obtain ⟨sa', sc', rfl⟩ := rb.s.form
  obtain ⟨ca', cc', rfl⟩ := rb.c.form
  obtain ⟨oa', oc', rfl⟩ := rb.o.form
  clear ra rb
  unfold vmV
  dsimp only
  have hkk : (each != each) = false := by cases each <;> rfl
  have F1 := Lib.hid (fun (W : World) (hb : Below w.heap.size w W) => eqFunS_same _ _ fs W (RA.out W hb).f (RB.out W hb).f)
  have F2 := Lib.hid (fun (W : World) (hb : Below w.heap.size w W) => eqHeap_same _ _ zs h b n W (RA.out W hb).z (RB.out W hb).z)
  have F3 := Lib.hid (fun (W : World) (hb : Below w.heap.size w W) => (eqIntS_any _ _ ss ss W (RA.out W hb).s (RB.out W hb).s).mono (fun e w' h => (⟨h.1.trans (ret_bool (decide_eq_true rfl)), h.2.below _⟩ : e = .returned (.bool true) ∧ Below W.heap.size W w')))
  have F4 := Lib.hid (fun (W : World) (hb : Below w.heap.size w W) => (eqCallS_any _ _ cs cs W (RA.out W hb).c (RB.out W hb).c).mono (fun e w' h => (⟨h.1.trans (ret_bool (decide_eq_true rfl)), h.2⟩ : e = .returned (.bool true) ∧ Below W.heap.size W w')))
  have F5 := Lib.hid (fun (W : World) (hb : Below w.heap.size w W) => (eqIntS_any _ _ os os W (RA.out W hb).o (RB.out W hb).o).mono (fun e w' h => (⟨h.1.trans (ret_bool (decide_eq_true rfl)), h.2.below _⟩ : e = .returned (.bool true) ∧ Below W.heap.size W w')))
  go_enter Try.func8, Try.ntmps8
  go_wp2_with fail
  generalize hx : (w.alloc _).alloc _ = x
  obtain ⟨bb, k1, k2, sx⟩ := alloc_two hx
  clear hx
  have ck1 := k1.2.1
  have yk1 := k1.1
  have ck2 := k2.2.1
  have yk2 := k2.1
  go_wp2_with fail
  refine (F1.out _ bb).mono ?_
  rintro e w1 ⟨rfl, b1⟩
  clear ck1 yk1 ck2 yk2
  replace k1 := k1.below b1 k1.1
  replace k2 := k2.below b1 k2.1
  replace bb := bb.trans (b1.mono bb.size)
  clear b1
  have ck1 := k1.2.1
  have yk1 := k1.1
  have ck2 := k2.2.1
  have yk2 := k2.1
  go_wp2_with fail
  refine (F2.out _ bb).mono ?_
  rintro e w2 ⟨rfl, b2⟩
  clear ck1 yk1 ck2 yk2
  replace k1 := k1.below b2 k1.1
  replace k2 := k2.below b2 k2.1
  replace bb := bb.trans (b2.mono bb.size)
  clear b2
  have ck1 := k1.2.1
  have yk1 := k1.1
  have ck2 := k2.2.1
  have yk2 := k2.1
  go_wp2_with fail
  refine (F3.out _ bb).mono ?_
  rintro e w3 ⟨rfl, b3⟩
  clear ck1 yk1 ck2 yk2
  replace k1 := k1.below b3 k1.1
  replace k2 := k2.below b3 k2.1
  replace bb := bb.trans (b3.mono bb.size)
  clear b3
  have ck1 := k1.2.1
  have yk1 := k1.1
  have ck2 := k2.2.1
  have yk2 := k2.1
  go_wp2_with fail
  refine (F4.out _ bb).mono ?_
  rintro e w4 ⟨rfl, b4⟩
  clear ck1 yk1 ck2 yk2
  replace k1 := k1.below b4 k1.1
  replace k2 := k2.below b4 k2.1
  replace bb := bb.trans (b4.mono bb.size)
  clear b4
  have ck1 := k1.2.1
  have yk1 := k1.1
  have ck2 := k2.2.1
  have yk2 := k2.1
  go_wp2_with fail
  refine (F5.out _ bb).mono ?_
  rintro e w5 ⟨rfl, b5⟩
  clear ck1 yk1 ck2 yk2
  replace k1 := k1.below b5 k1.1
  replace k2 := k2.below b5 k2.1
  replace bb := bb.trans (b5.mono bb.size)
  clear b5
  have ck1 := k1.2.1
  have yk1 := k1.1
  have ck2 := k2.2.1
  have yk2 := k2.1
  go_wp2
  go_ret
  exact ⟨rfl, bb⟩

end Go.Proofs.Ytlkdlcpfcacigaa
