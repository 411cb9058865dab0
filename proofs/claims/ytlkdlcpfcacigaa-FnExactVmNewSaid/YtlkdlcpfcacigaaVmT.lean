/- toVm: a machine of the program's own type, in new rows. -/
import Derived.Test.YtlkdlcpfcacigaaVm
import Derived.Test.YtlkdlcpfcacigaaOwnH
namespace Go.Proofs.Ytlkdlcpfcacigaa
open Go.RowKit
set_option linter.unusedVariables false

/-- rows of a machine that the call owns. -/
structure OwnV (base : Nat) (w : World) (fv hv sv cv ov : Value) (L : VmL) : Prop where
  f : OwnF base w fv L.fs
  z : w.ownsRow base 3 1 hv L.zs.length (L.zs.map (Value.int .i64))
  s : w.ownsRow base 3 1 sv L.ss.length (L.ss.map (Value.int .i64))
  c : w.ownsRow base 48 3 cv L.cs.length (flat O3.enc L.cs)
  o : w.ownsRow base 3 1 ov L.os.length (L.os.map (Value.int .i64))
theorem RdV.forms {B : Nat} {w : World} {fv hv sv cv ov : Value} {L : VmL} (h : RdV B w fv hv sv cv ov L) : ∃ fa fc ha hc sa sc ca cc oa oc, fv = .slice fa L.fs.length fc ∧ hv = .slice ha L.zs.length hc ∧ sv = .slice sa L.ss.length sc ∧ cv = .slice ca L.cs.length cc ∧ ov = .slice oa L.os.length oc := by
  obtain ⟨fa, fc, e1⟩ := h.f.form
  obtain ⟨ha, hc, e2⟩ := h.z.form
  obtain ⟨sa, sc, e3⟩ := h.s.form
  obtain ⟨ca, cc, e4⟩ := h.c.form
  obtain ⟨oa, oc, e5⟩ := h.o.form
  exact ⟨fa, fc, ha, hc, sa, sc, ca, cc, oa, oc, e1, e2, e3, e4, e5⟩
theorem RdV.of_own {base : Nat} {w : World} {fv hv sv cv ov : Value} {L : VmL} (h : OwnV base w fv hv sv cv ov L) : RdV w.heap.size w fv hv sv cv ov L :=
  ⟨RdF.of_own h.f, Rd.of_own h.z, Rd.of_own h.s, RdE.of_own O3.enc_len h.c, Rd.of_own h.o⟩
theorem OwnV.below {base : Nat} {w w' : World} {fv hv sv cv ov : Value} {L : VmL} (h : OwnV base w fv hv sv cv ov L) (hb : Below w.heap.size w w') : OwnV base w' fv hv sv cv ov L :=
  ⟨h.f.below hb, own_below h.z hb (own_lt h.z), own_below h.s hb (own_lt h.s), own_below h.c hb (own_lt h.c), own_below h.o hb (own_lt h.o)⟩
theorem OwnF.setCell {base : Nat} {w : World} {v : Value} {fs : List F2} (h : OwnF base w v fs) {a : Addr} (ha : a.block < base) (u : Value) : OwnF base (w.setCell a u) v fs := by
  obtain ⟨fl, h1, h2, h3, h4⟩ := h
  exact ⟨fl, ownsRow_setCell_below h1 ha u, h2, fun j a b => ⟨(h3 j a b).1, ownsRow_setCell_below (h3 j a b).2 ha u⟩, h4⟩
/-- the three struct variables of toVm. -/
structure Tv (w : World) (g : Nat) (A Z C : Array Value) : Prop where
  k1 : Bx w g A
  k2 : Bx w (g + 1) Z
  k3 : Bx w (g + 2) C
theorem Tv.below {w w' : World} {g : Nat} {A Z C : Array Value} (t : Tv w g A Z C) (hb : Below w.heap.size w w') : Tv w' g A Z C := ⟨t.k1.below hb t.k1.1, t.k2.below hb t.k2.1, t.k3.below hb t.k3.1⟩
theorem Tv.set {w : World} {g : Nat} {A Z C : Array Value} (t : Tv w g A Z C) (i : Nat) (hi : i < C.size) (u : Value) : Tv (w.setCell ⟨g + 2, i, none⟩ u) g A Z (C.setIfInBounds i u) :=
  ⟨t.k1.grown (grownBy.setCell w (g + 2) i u) (fun h => by have := Option.some.inj h; omega), t.k2.grown (grownBy.setCell w (g + 2) i u) (fun h => by have := Option.some.inj h; omega), t.k3.put i hi u⟩

end Go.Proofs.Ytlkdlcpfcacigaa
