/- toVm: a machine of the program's own type, in new rows. -/
import Derived.Test.YtkpkofddfjgmpaaVm
import Derived.Test.YtkpkofddfjgmpaaFunsT
namespace Go.Proofs.Ytkpkofddfjgmpaa
open Go.RowKit
set_option linter.unusedVariables false

/-- rows of a machine that the call owns. -/
structure OwnV (base : Nat) (w : World) (fv hv sv cv ov : Value) (L : VmL) : Prop where
  f : OwnF base w fv L.fs
  z : w.ownsRow base 3 1 hv L.zs.length (L.zs.map (Value.int .i64))
  s : w.ownsRow base 3 1 sv L.ss.length (L.ss.map (Value.int .i64))
  c : w.ownsRow base 112 3 cv L.cs.length (flat O3.enc L.cs)
  o : w.ownsRow base 3 1 ov L.os.length (L.os.map (Value.int .i64))
theorem RdV.forms {B : Nat} {w : World} {fv hv sv cv ov : Value} {L : VmL} (h : RdV B w fv hv sv cv ov L) : ∃ fa fc ha hc sa sc ca cc oa oc, fv = .slice fa L.fs.length fc ∧ hv = .slice ha L.zs.length hc ∧ sv = .slice sa L.ss.length sc ∧ cv = .slice ca L.cs.length cc ∧ ov = .slice oa L.os.length oc := by
  obtain ⟨fa, fc, e1⟩ := h.f.form
  obtain ⟨ha, hc, e2⟩ := h.z.form
  obtain ⟨sa, sc, e3⟩ := h.s.form
  obtain ⟨ca, cc, e4⟩ := h.c.form
  obtain ⟨oa, oc, e5⟩ := h.o.form
  exact ⟨fa, fc, ha, hc, sa, sc, ca, cc, oa, oc, e1, e2, e3, e4, e5⟩
theorem RdV.of_own {base : Nat} {w : World} {fv hv sv cv ov : Value} {L : VmL} (h : OwnV base w fv hv sv cv ov L) : RdV w.heap.size w fv hv sv cv ov L :=
  ⟨RdF.of_own h.f, Rd.of_own h.z, Rd.of_own h.s, RdE.of_own O3.enc_len h.c, Rd.of_own h.o⟩
theorem OwnV.below {base : Nat} {w w' : World} {fv hv sv cv ov : Value} {L : VmL} (h : OwnV base w fv hv sv cv ov L) (hb : Below w.heap.size w w') : OwnV base w' fv hv sv cv ov L :=
  ⟨h.f.below hb, own_below h.z hb (own_lt h.z), own_below h.s hb (own_lt h.s), own_below h.c hb (own_lt h.c), own_below h.o hb (own_lt h.o)⟩
theorem OwnF.setCell {base : Nat} {w : World} {v : Value} {fs : List F2} (h : OwnF base w v fs) {a : Addr} (ha : a.block < base) (u : Value) : OwnF base (w.setCell a u) v fs := by
  obtain ⟨fl, h1, h2, h3, h4⟩ := h
  exact ⟨fl, ownsRow_setCell_below h1 ha u, h2, fun j a b => ⟨(h3 j a b).1, ownsRow_setCell_below (h3 j a b).2 ha u⟩, h4⟩
theorem Bx.put {w : World} {g : Nat} {cur : Array Value} (h : Bx w g cur) (i : Nat) (hi : i < cur.size) (u : Value) : Bx (w.setCell ⟨g, i, none⟩ u) g (cur.setIfInBounds i u) := by
  refine ⟨by rw [World.size_setCell]; exact h.1, fun j => ?_, fun j => by rw [World.frozen?_setCell]; exact h.2.2 j⟩
  by_cases hj : i = j
  · subst hj
    rw [World.cell?_setCell_same _ _ _ ((h.2.1 i).trans (Array.getElem?_eq_getElem hi))]
    simp [hi]
  · rw [World.cell?_setCell_other _ _ _ _ (by intro he; injection he; exact hj (by assumption)), h.2.1 j, Array.getElem?_setIfInBounds_ne hj]
/-- the three struct variables of toVm. -/
structure Tv (w : World) (g : Nat) (A Z C : Array Value) : Prop where
  k1 : Bx w g A
  k2 : Bx w (g + 1) Z
  k3 : Bx w (g + 2) C
theorem Tv.below {w w' : World} {g : Nat} {A Z C : Array Value} (t : Tv w g A Z C) (hb : Below w.heap.size w w') : Tv w' g A Z C := ⟨t.k1.below hb t.k1.1, t.k2.below hb t.k2.1, t.k3.below hb t.k3.1⟩
theorem Tv.set {w : World} {g : Nat} {A Z C : Array Value} (t : Tv w g A Z C) (i : Nat) (hi : i < C.size) (u : Value) : Tv (w.setCell ⟨g + 2, i, none⟩ u) g A Z (C.setIfInBounds i u) :=
  ⟨t.k1.grown (grownBy.setCell w (g + 2) i u) (fun h => by have := Option.some.inj h; omega), t.k2.grown (grownBy.setCell w (g + 2) i u) (fun h => by have := Option.some.inj h; omega), t.k3.put i hi u⟩

set_option maxHeartbeats 1600000 in
set_option maxRecDepth 100000 in
theorem toVm_any {B : Nat} (fv hv sv cv ov : Value) (L : VmL) (w : World) (hr : RdV B w fv hv sv cv ov L) (hn : vmSz L ≤ 4294967296) :
    Calls Try.prog 35 #[vmV fv hv sv cv ov L] w fun e w' => ∃ fv' hv' sv' cv' ov', e = .returned (vmV fv' hv' sv' cv' ov' L) ∧ OwnV w.heap.size w' fv' hv' sv' cv' ov' L ∧ Below w.heap.size w w' := by
  obtain ⟨fs, zs, h, b, n, ss, cs, os, code, each⟩ := L
  have HR := Lib.hid (fun (W : World) (hb : Below w.heap.size w W) => hr.below' hb)
  obtain ⟨fa, fc, rfl⟩ := hr.f.form
  obtain ⟨ha, hc, rfl⟩ := hr.z.form
  obtain ⟨sa, sc, rfl⟩ := hr.s.form
  obtain ⟨ca, cc, rfl⟩ := hr.c.form
  obtain ⟨oa, oc, rfl⟩ := hr.o.form
  clear hr
  unfold vmSz at hn
  unfold vmV
  dsimp only at hn ⊢
  have F1 := Lib.hid (fun (W : World) (hb : Below w.heap.size w W) => toFunS_any _ fs W (HR.out W hb).f (by omega) (by omega))
  have F2 := Lib.hid (fun (W : World) (hb : Below w.heap.size w W) => toHeap_any _ zs h b n W (HR.out W hb).z (by omega))
  have F3 := Lib.hid (fun (W : World) (hb : Below w.heap.size w W) => toIntS_any _ ss W (HR.out W hb).s (by omega))
  have F4 := Lib.hid (fun (W : World) (hb : Below w.heap.size w W) => toCallS_any _ cs W (HR.out W hb).c (by omega))
  have F5 := Lib.hid (fun (W : World) (hb : Below w.heap.size w W) => toIntS_any _ os W (HR.out W hb).o (by omega))
  clear hn
  go_enter Try.func35, Try.ntmps35
  go_wp2_with fail
  generalize hx : ((w.alloc _).alloc _).alloc _ = x
  obtain ⟨bb, k1, k2, k3, sx⟩ := alloc_box3 hx
  have T := Tv.mk k1 k2 k3
  have hxs : w.heap.size + 3 ≤ x.heap.size := Nat.le_of_eq sx.symm
  clear hx k1 k2 k3 sx
  -- functions
  have q1 := T.k1.2.1
  go_wp2_with fail
  refine (F1.out _ bb).mono ?_
  rintro e w1 ⟨v1, rfl, o1, b1⟩
  obtain ⟨a1, d1, rfl⟩ := o1.form
  have zx1 := b1.size
  replace T := T.below b1
  replace bb := (bb.trans (b1.mono bb.size)).setCell (p := ⟨w.heap.size + 2, 0, none⟩) (by show _ ≤ _ + 2; omega) (.slice a1 fs.length d1)
  replace o1 := o1.setCell (a := ⟨w.heap.size + 2, 0, none⟩) (by show _ + 2 < _; omega) (.slice a1 fs.length d1)
  clear q1 b1
  have q1 := T.k1.2.1
  have q3 := T.k3.2.1
  have f3 := T.k3.2.2
  have y3 := T.k3.1
  replace T := T.set 0 (by simp) (.slice a1 fs.length d1)
  go_wp2_with fail
  refine (F2.out _ bb).mono ?_
  rintro e w2 ⟨v2, rfl, o2, b2⟩
  clear q1 q3 f3 y3
  obtain ⟨a2, d2, rfl⟩ := own_form o2
  have zx2 := b2.size
  rw [World.size_setCell] at zx2
  replace T := T.below b2
  replace o1 := o1.below b2
  replace o2 := own_base o2 (show w1.heap.size ≤ _ by simp)
  replace bb := ((((bb.trans (b2.mono bb.size)).setCell (p := ⟨w.heap.size + 2, 1, none⟩) (by show _ ≤ _ + 2; omega) (.slice a2 zs.length d2)).setCell (p := ⟨w.heap.size + 2, 2, none⟩) (by show _ ≤ _ + 2; omega) (.int .i64 h)).setCell (p := ⟨w.heap.size + 2, 3, none⟩) (by show _ ≤ _ + 2; omega) (.int .i64 b)).setCell (p := ⟨w.heap.size + 2, 4, none⟩) (by show _ ≤ _ + 2; omega) (.int .i64 n)
  replace o1 := (((o1.setCell (a := ⟨w.heap.size + 2, 1, none⟩) (by show _ + 2 < _; omega) (.slice a2 zs.length d2)).setCell (a := ⟨w.heap.size + 2, 2, none⟩) (by show _ + 2 < _; omega) (.int .i64 h)).setCell (a := ⟨w.heap.size + 2, 3, none⟩) (by show _ + 2 < _; omega) (.int .i64 b)).setCell (a := ⟨w.heap.size + 2, 4, none⟩) (by show _ + 2 < _; omega) (.int .i64 n)
  replace o2 := ownsRow_setCell_below (a := ⟨w.heap.size + 2, 4, none⟩) (ownsRow_setCell_below (a := ⟨w.heap.size + 2, 3, none⟩) (ownsRow_setCell_below (a := ⟨w.heap.size + 2, 2, none⟩) (ownsRow_setCell_below (a := ⟨w.heap.size + 2, 1, none⟩) o2 (by show _ + 2 < _; omega) (.slice a2 zs.length d2)) (by show _ + 2 < _; omega) (.int .i64 h)) (by show _ + 2 < _; omega) (.int .i64 b)) (by show _ + 2 < _; omega) (.int .i64 n)
  clear b2
  have q1 := T.k1.2.1
  have q3 := T.k3.2.1
  have f3 := T.k3.2.2
  have y3 := T.k3.1
  replace T := (((T.set 1 (by simp) (.slice a2 zs.length d2)).set 2 (by simp) (.int .i64 h)).set 3 (by simp) (.int .i64 b)).set 4 (by simp) (.int .i64 n)
  go_wp2_with fail
  refine (F3.out _ bb).mono ?_
  rintro e w3 ⟨v3, rfl, o3, b3⟩
  clear q1 q3 f3 y3
  obtain ⟨a3, d3, rfl⟩ := own_form o3
  have zx3 := b3.size
  rw [World.size_setCell, World.size_setCell, World.size_setCell, World.size_setCell] at zx3
  replace T := T.below b3
  replace o1 := (o1.below b3).setCell (a := ⟨w.heap.size + 2, 5, none⟩) (by show _ + 2 < _; omega) (.slice a3 ss.length d3)
  replace o2 := ownsRow_setCell_below (a := ⟨w.heap.size + 2, 5, none⟩) (own_below o2 b3 (own_lt o2)) (by show _ + 2 < _; omega) (.slice a3 ss.length d3)
  replace o3 := ownsRow_setCell_below (a := ⟨w.heap.size + 2, 5, none⟩) (own_base o3 (show w2.heap.size ≤ _ by simp)) (by show _ + 2 < _; omega) (.slice a3 ss.length d3)
  replace bb := (bb.trans (b3.mono bb.size)).setCell (p := ⟨w.heap.size + 2, 5, none⟩) (by show _ ≤ _ + 2; omega) (.slice a3 ss.length d3)
  clear b3
  have q1 := T.k1.2.1
  have q3 := T.k3.2.1
  have f3 := T.k3.2.2
  have y3 := T.k3.1
  replace T := T.set 5 (by simp) (.slice a3 ss.length d3)
  go_wp2_with fail
  refine (F4.out _ bb).mono ?_
  rintro e w4 ⟨v4, rfl, o4, b4⟩
  clear q1 q3 f3 y3
  obtain ⟨a4, d4, rfl⟩ := own_form o4
  have zx4 := b4.size
  rw [World.size_setCell] at zx4
  replace T := T.below b4
  replace o1 := (o1.below b4).setCell (a := ⟨w.heap.size + 2, 6, none⟩) (by show _ + 2 < _; omega) (.slice a4 cs.length d4)
  replace o2 := ownsRow_setCell_below (a := ⟨w.heap.size + 2, 6, none⟩) (own_below o2 b4 (own_lt o2)) (by show _ + 2 < _; omega) (.slice a4 cs.length d4)
  replace o3 := ownsRow_setCell_below (a := ⟨w.heap.size + 2, 6, none⟩) (own_below o3 b4 (own_lt o3)) (by show _ + 2 < _; omega) (.slice a4 cs.length d4)
  replace o4 := ownsRow_setCell_below (a := ⟨w.heap.size + 2, 6, none⟩) (own_base o4 (show w3.heap.size ≤ _ by simp)) (by show _ + 2 < _; omega) (.slice a4 cs.length d4)
  replace bb := (bb.trans (b4.mono bb.size)).setCell (p := ⟨w.heap.size + 2, 6, none⟩) (by show _ ≤ _ + 2; omega) (.slice a4 cs.length d4)
  clear b4
  have q1 := T.k1.2.1
  have q3 := T.k3.2.1
  have f3 := T.k3.2.2
  have y3 := T.k3.1
  replace T := T.set 6 (by simp) (.slice a4 cs.length d4)
  go_wp2_with fail
  refine (F5.out _ bb).mono ?_
  rintro e w5 ⟨v5, rfl, o5, b5⟩
  clear q1 q3 f3 y3
  obtain ⟨a5, d5, rfl⟩ := own_form o5
  have zx5 := b5.size
  rw [World.size_setCell] at zx5
  replace T := T.below b5
  have O1 := Lib.hid (o1.below b5)
  have O2 := Lib.hid (own_below o2 b5 (own_lt o2))
  have O3 := Lib.hid (own_below o3 b5 (own_lt o3))
  have O4 := Lib.hid (own_below o4 b5 (own_lt o4))
  have O5 := Lib.hid (own_base o5 (show w4.heap.size ≤ _ by simp))
  have BB := Lib.hid (bb.trans (b5.mono bb.size))
  clear b5 o1 o2 o3 o4 o5 bb
  have q1 := T.k1.2.1
  have q2 := T.k2.2.1
  have q3 := T.k3.2.1
  have f2 := T.k2.2.2
  have f3 := T.k3.2.2
  have y2 := T.k2.1
  have y3 := T.k3.1
  go_wp2
  refine bodyPost_ret (v := .agg #[.slice a1 fs.length d1, .slice a2 zs.length d2, .int .i64 h, .int .i64 b, .int .i64 n, .slice a3 ss.length d3, .slice a4 cs.length d4, .slice a5 os.length d5, .int .i64 code, .bool each]) ?_ rfl ⟨_, _, _, _, _, rfl, ⟨?_, ?_, ?_, ?_, ?_⟩, ?_⟩
  · simp [results, Try.results35, go_sem, q2]
  · refine OwnF.base (base := x.heap.size) ?_ (by omega)
    repeat (refine OwnF.setCell ?_ (by first | (show _ + 1 < _; omega) | (show _ + 2 < _; omega)) _)
    exact O1.out
  · refine own_base (base := w1.heap.size) ?_ (by omega)
    repeat (refine ownsRow_setCell_below ?_ (by first | (show _ + 1 < _; omega) | (show _ + 2 < _; omega)) _)
    exact O2.out
  · refine own_base (base := w2.heap.size) ?_ (by omega)
    repeat (refine ownsRow_setCell_below ?_ (by first | (show _ + 1 < _; omega) | (show _ + 2 < _; omega)) _)
    exact O3.out
  · refine own_base (base := w3.heap.size) ?_ (by omega)
    repeat (refine ownsRow_setCell_below ?_ (by first | (show _ + 1 < _; omega) | (show _ + 2 < _; omega)) _)
    exact O4.out
  · refine own_base (base := w4.heap.size) ?_ (by omega)
    repeat (refine ownsRow_setCell_below ?_ (by first | (show _ + 1 < _; omega) | (show _ + 2 < _; omega)) _)
    exact O5.out
  · repeat (refine Below.setCell ?_ (by first | (show _ ≤ _ + 1; omega) | (show _ ≤ _ + 2; omega)) _)
    exact BB.out

end Go.Proofs.Ytkpkofddfjgmpaa
