import Derived.Test.YtlkdlcpfcacigaaMgMarkF
import Derived.Test.YtlkdlcpfcacigaaMgBlockAt
import Derived.Test.YtlkdlcpfcacigaaHeapNew
import Derived.Test.YtlkdlcpfcacigaaVmT
/- What a mark leaves as it was. -/
namespace Go.Proofs.Ytlkdlcpfcacigaa
open Go.RowKit
set_option linter.unusedVariables false

theorem Bx.out {base hi g : Nat} {w w' : World} {cur : Array Value} (h : Bx w g cur) (o : Out base hi w w') (hg : g < base ∨ hi ≤ g) : Bx w' g cur :=
  ⟨Nat.lt_of_lt_of_le h.1 o.size, fun j => (World.cell?_of_block (o.block g h.1 hg)).trans (h.2.1 j), fun j => (World.frozen?_of_block (o.block g h.1 hg)).trans (h.2.2 j)⟩
theorem own_out {base hi b0 : Nat} {e : TypeId} {sz n : Nat} {w w' : World} {v : Value} {xs : List Value} (h : w.ownsRow b0 e sz v n xs) (o : Out base hi w w') (hv : ∀ k, v.ownBlock = some k → k < base ∨ hi ≤ k) : w'.ownsRow b0 e sz v n xs := by
  have hl := own_lt h
  refine ⟨h.1, ?_⟩
  rcases h.2 with hn | ⟨b, cap, cur, rfl, hbs, hg, rest⟩
  · exact .inl hn
  · exact .inr ⟨b, cap, cur, rfl, hbs, by rw [o.block b (hl b rfl) (hv b rfl)]; exact hg, rest⟩
theorem OwnH.out {base hi b0 h0 : Nat} {w w' : World} {v : Value} {fs : List F2} (h : OwnH b0 h0 w v fs) (o : Out base hi w w') (hh : h0 ≤ w.heap.size) (hd : h0 ≤ base ∨ hi ≤ b0) : OwnH b0 h0 w' v fs :=
  h.same (fun q h1 h2 => o.block q (by omega) (by omega))
theorem OwnH.rd {base hi : Nat} {w : World} {v : Value} {fs : List F2} (h : OwnH base hi w v fs) : RdF w.heap.size w v fs := RdF.of_own h.to_f

end Go.Proofs.Ytlkdlcpfcacigaa

/- markVm and heldVm of the laws. -/
namespace Go.Proofs.Ytlkdlcpfcacigaa
open Go.RowKit
set_option linter.unusedVariables false
set_option linter.unusedSimpArgs false

/-- a row lies beside the blocks from a up to e, ahead of hi. -/
def Offs (a e hi : Nat) (v : Value) : Prop := ∀ k, v.ownBlock = some k → (k < a ∨ e ≤ k) ∧ k < hi
/-- a machine whose rows are a call's own, each in blocks of its own. -/
structure OwnM (b hi : Nat) (W : World) (fv hv sv cv ov : Value) (L : VmL) : Prop where
  hs : hi ≤ W.heap.size
  z : W.ownsRow b 3 1 hv L.zs.length (L.zs.map (Value.int .i64))
  s : W.ownsRow b 3 1 sv L.ss.length (L.ss.map (Value.int .i64))
  c : W.ownsRow b 48 3 cv L.cs.length (flat O3.enc L.cs)
  o : W.ownsRow b 3 1 ov L.os.length (L.os.map (Value.int .i64))
  ap : ∃ a e, b ≤ a ∧ e ≤ hi ∧ OwnH a e W fv L.fs ∧ Offs a e hi hv ∧ Offs a e hi sv ∧ Offs a e hi cv ∧ Offs a e hi ov
  zs : Blk hv sv
  zc : Blk hv cv
  zo : Blk hv ov
  sc : Blk sv cv
  so : Blk sv ov
  co : Blk cv ov
def mk1 (L : VmL) : Int := 1 + offF L.fs L.fs.length
def mk2 (L : VmL) : Int := mk1 L + L.zs.length
def mk3 (L : VmL) : Int := mk2 L + L.ss.length
def mk4 (L : VmL) : Int := mk3 L + 3 * L.cs.length
def mk5 (L : VmL) : Int := mk4 L + L.os.length
/-- its rows, marked. -/
structure MarM (b : Nat) (W : World) (fv hv sv cv ov : Value) (L : VmL) : Prop where
  f : OwnF b W fv (mFuns 1 L.fs)
  z : W.ownsRow b 3 1 hv L.zs.length ((marks .i64 (mk1 L) L.zs.length).map (Value.int .i64))
  s : W.ownsRow b 3 1 sv L.ss.length ((marks .i64 (mk2 L) L.ss.length).map (Value.int .i64))
  c : W.ownsRow b 48 3 cv L.cs.length (flat O3.enc (mOps (mk3 L) L.cs.length))
  o : W.ownsRow b 3 1 ov L.os.length ((marks .i64 (mk4 L) L.os.length).map (Value.int .i64))
theorem OwnM.below {b hi : Nat} {W W' : World} {fv hv sv cv ov : Value} {L : VmL} (h : OwnM b hi W fv hv sv cv ov L) (hb : Below W.heap.size W W') : OwnM b hi W' fv hv sv cv ov L := by
  obtain ⟨a, e, p1, p2, p3, p4⟩ := h.ap
  exact ⟨Nat.le_trans h.hs hb.size, own_below h.z hb (own_lt h.z), own_below h.s hb (own_lt h.s), own_below h.c hb (own_lt h.c), own_below h.o hb (own_lt h.o), ⟨a, e, p1, p2, p3.below hb (Nat.le_trans p2 h.hs), p4⟩, h.zs, h.zc, h.zo, h.sc, h.so, h.co⟩
theorem OwnM.out {b hi b0 h0 : Nat} {W W' : World} {fv hv sv cv ov : Value} {L : VmL} (h : OwnM b hi W fv hv sv cv ov L) (o : Out b0 h0 W W') (hh : h0 ≤ b) : OwnM b hi W' fv hv sv cv ov L := by
  obtain ⟨a, e, p1, p2, p3, p4⟩ := h.ap
  exact ⟨Nat.le_trans h.hs o.size, own_out h.z o (fun k hk => .inr (Nat.le_trans hh (h.z.lt k hk).1)), own_out h.s o (fun k hk => .inr (Nat.le_trans hh (h.s.lt k hk).1)), own_out h.c o (fun k hk => .inr (Nat.le_trans hh (h.c.lt k hk).1)), own_out h.o o (fun k hk => .inr (Nat.le_trans hh (h.o.lt k hk).1)), ⟨a, e, p1, p2, p3.out o (Nat.le_trans p2 h.hs) (.inr (Nat.le_trans hh p1)), p4⟩, h.zs, h.zc, h.zo, h.sc, h.so, h.co⟩
theorem OwnM.rd {b hi : Nat} {W : World} {fv hv sv cv ov : Value} {L : VmL} (h : OwnM b hi W fv hv sv cv ov L) : RdV W.heap.size W fv hv sv cv ov L := by
  obtain ⟨a, e, p1, p2, p3, p4⟩ := h.ap
  exact RdV.of_own (base := b) ⟨p3.to_f.base p1, h.z, h.s, h.c, h.o⟩
theorem MarM.below {b : Nat} {W W' : World} {fv hv sv cv ov : Value} {L : VmL} (h : MarM b W fv hv sv cv ov L) (hb : Below W.heap.size W W') : MarM b W' fv hv sv cv ov L :=
  ⟨h.f.below hb, own_below h.z hb (own_lt h.z), own_below h.s hb (own_lt h.s), own_below h.c hb (own_lt h.c), own_below h.o hb (own_lt h.o)⟩
theorem Offs.out {a e hi k : Nat} {v : Value} (h : Offs a e hi v) : v.ownBlock = some k → k < a ∨ e ≤ k := fun hk => (h k hk).1
theorem blk_kept {base : Nat} {e : TypeId} {sz n : Nat} {w w' : World} {u v : Value} {xs : List Value} (h : w.ownsRow base e sz v n xs) (g : w.grownBy w' u.ownBlock) (hb : ∀ p q, u.ownBlock = some p → v.ownBlock = some q → p ≠ q) : w'.ownsRow base e sz v n xs := by
  refine h.kept g ?_
  cases hv : v.ownBlock with
  | none => exact .inl rfl
  | some q =>
    refine .inr fun hu => ?_
    exact hb q q hu.symm hv rfl
theorem mk_nonneg (L : VmL) : 0 ≤ mk1 L ∧ mk1 L ≤ mk2 L ∧ mk2 L ≤ mk3 L ∧ mk3 L ≤ mk4 L ∧ mk4 L ≤ mk5 L := by
  have := offF_nonneg L.fs L.fs.length
  unfold mk5 mk4 mk3 mk2 mk1
  omega

set_option maxHeartbeats 1600000 in
set_option maxRecDepth 100000 in
theorem markVm_any {b hi : Nat} (fv hv sv cv ov : Value) (L : VmL) (w : World) (N : OwnM b hi w fv hv sv cv ov L) (hK : mk5 L ≤ 1048576000) :
    Calls Try.prog 11 #[vmV fv hv sv cv ov L, .int .i64 1] w fun e w' => e = .returned (.int .i64 (mk5 L)) ∧ MarM b w' fv hv sv cv ov L ∧ Out b hi w w' := by
  have hmk := mk_nonneg L
  have hoff := offF_all L.fs
  have e1 : mk1 L = 1 + offF L.fs L.fs.length := rfl
  have HF := Lib.hid (fun (B H : Nat) (W : World) (ho : OwnH B H W fv L.fs) (hh : H ≤ W.heap.size) => (by have := markFunS_any fv L.fs 1 W ho hh (by omega) (by omega); rw [← e1] at this; exact this : Calls Try.prog 10 #[fv, .int .i64 1] W fun e w' => e = .returned (.int .i64 (mk1 L)) ∧ OwnH B H w' fv (mFuns 1 L.fs) ∧ Out B H W w'))
  have HZ := Lib.hid (fun (W : World) (ho : W.ownsRow b 3 1 hv L.zs.length (L.zs.map (Value.int .i64))) => (by exact markHeap_any hv _ L.h L.b L.n (mk1 L) W ho (by omega) (by have : mk2 L = mk1 L + L.zs.length := rfl; omega) : Calls Try.prog 28 #[.agg #[hv, .int .i64 L.h, .int .i64 L.b, .int .i64 L.n], .int .i64 (mk1 L)] W fun e w' => e = .returned (.int .i64 (mk2 L)) ∧ w'.ownsRow b 3 1 hv L.zs.length ((marks .i64 (mk1 L) L.zs.length).map (Value.int .i64)) ∧ W.grownBy w' hv.ownBlock))
  have HS := Lib.hid (fun (W : World) (ho : W.ownsRow b 3 1 sv L.ss.length (L.ss.map (Value.int .i64))) => (by exact markIntS_any sv _ (mk2 L) W ho (by omega) (by have : mk3 L = mk2 L + L.ss.length := rfl; omega) : Calls Try.prog 29 #[sv, .int .i64 (mk2 L)] W fun e w' => e = .returned (.int .i64 (mk3 L)) ∧ w'.ownsRow b 3 1 sv L.ss.length ((marks .i64 (mk2 L) L.ss.length).map (Value.int .i64)) ∧ W.grownBy w' sv.ownBlock))
  have HC := Lib.hid (fun (W : World) (ho : W.ownsRow b 48 3 cv L.cs.length (flat O3.enc L.cs)) => (by exact markCallS_any cv L.cs (mk3 L) W ho (by omega) (by have : mk4 L = mk3 L + 3 * L.cs.length := rfl; omega) : Calls Try.prog 30 #[cv, .int .i64 (mk3 L)] W fun e w' => e = .returned (.int .i64 (mk4 L)) ∧ w'.ownsRow b 48 3 cv L.cs.length (flat O3.enc (mOps (mk3 L) L.cs.length)) ∧ W.grownBy w' cv.ownBlock))
  have HO := Lib.hid (fun (W : World) (ho : W.ownsRow b 3 1 ov L.os.length (L.os.map (Value.int .i64))) => (by exact markIntS_any ov _ (mk4 L) W ho (by omega) (by have : mk5 L = mk4 L + L.os.length := rfl; omega) : Calls Try.prog 29 #[ov, .int .i64 (mk4 L)] W fun e w' => e = .returned (.int .i64 (mk5 L)) ∧ w'.ownsRow b 3 1 ov L.os.length ((marks .i64 (mk4 L) L.os.length).map (Value.int .i64)) ∧ W.grownBy w' ov.ownBlock))
  have FIN := Lib.hid (fun (W : World) (h1 : OwnF b W fv (mFuns 1 L.fs)) (h2 : W.ownsRow b 3 1 hv L.zs.length ((marks .i64 (mk1 L) L.zs.length).map (Value.int .i64))) (h3 : W.ownsRow b 3 1 sv L.ss.length ((marks .i64 (mk2 L) L.ss.length).map (Value.int .i64))) (h4 : W.ownsRow b 48 3 cv L.cs.length (flat O3.enc (mOps (mk3 L) L.cs.length))) (h5 : W.ownsRow b 3 1 ov L.os.length ((marks .i64 (mk4 L) L.os.length).map (Value.int .i64))) => (⟨h1, h2, h3, h4, h5⟩ : MarM b W fv hv sv cv ov L))
  obtain ⟨hs, z, s, c, o, ⟨a, e, p1, p2, of, fz, fs, fc, fo⟩, zs, zc, zo, sc, so, co⟩ := N
  have hzb : ∀ k, hv.ownBlock = some k → b ≤ k := fun k hk => (z.lt k hk).1
  have hsb : ∀ k, sv.ownBlock = some k → b ≤ k := fun k hk => (s.lt k hk).1
  have hcb : ∀ k, cv.ownBlock = some k → b ≤ k := fun k hk => (c.lt k hk).1
  have hob : ∀ k, ov.ownBlock = some k → b ≤ k := fun k hk => (o.lt k hk).1
  obtain ⟨fa, fcc, rfl⟩ := of.form
  obtain ⟨za, zcc, rfl⟩ := own_form z
  obtain ⟨sa, scc, rfl⟩ := own_form s
  obtain ⟨ca, ccc, rfl⟩ := own_form c
  obtain ⟨oa, occ, rfl⟩ := own_form o
  unfold vmV
  generalize L.fs.length = nf at *
  generalize L.zs.length = nz at *
  generalize L.ss.length = ns at *
  generalize L.cs.length = nc at *
  generalize L.os.length = no at *
  generalize mk1 L = m1 at *
  generalize mk2 L = m2 at *
  generalize mk3 L = m3 at *
  generalize mk4 L = m4 at *
  generalize mk5 L = m5 at *
  clear e1 hoff
  go_enter Try.func11, Try.ntmps11
  go_wp2_with fail
  generalize hx : w.alloc _ = x
  obtain ⟨bb, k1⟩ := Bx.alloc hx
  clear hx
  have O0 : Out b hi w x := ⟨bb.os, bb.tape, bb.output, bb.size, fun q h _ => bb.block q h⟩
  have zx := bb.size
  replace of := of.below bb (by omega)
  replace z := own_below z bb (own_lt z)
  replace s := own_below s bb (own_lt s)
  replace c := own_below c bb (own_lt c)
  replace o := own_below o bb (own_lt o)
  clear bb
  have ck1 := k1.2.1
  have yk1 := k1.1
  go_wp2_with fail
  clear ck1 yk1
  refine (HF.out _ _ _ of (by omega)).mono ?_
  rintro e1 w1 ⟨rfl, of1, o1⟩
  have O1 : Out b hi w w1 := ⟨o1.os.trans O0.os, o1.tape.trans O0.tape, o1.output.trans O0.output, Nat.le_trans O0.size o1.size, fun q h1 h2 => (o1.block q (by omega) (by omega)).trans (O0.block q h1 h2)⟩
  have zw1 := o1.size
  replace k1 := k1.out o1 (.inr (by omega))
  replace z := own_out z o1 (fun k hk => (fz k hk).1)
  replace s := own_out s o1 (fun k hk => (fs k hk).1)
  replace c := own_out c o1 (fun k hk => (fc k hk).1)
  replace o := own_out o o1 (fun k hk => (fo k hk).1)
  clear of o1 O0
  have ck1 := k1.2.1
  have yk1 := k1.1
  go_wp2_with fail
  clear ck1 yk1
  refine (HZ.out _ z).mono ?_
  rintro e2 w2 ⟨rfl, z2, g2⟩
  have zw2 := g2.size
  have O2 := O1.grown g2 (fun q hq => ⟨hzb q hq, (fz q hq).2⟩)
  replace of1 := of1.grown g2 (by omega) (fun q hq => (fz q hq).1)
  replace k1 := k1.grown g2 (fun h => by have := (fz _ h.symm).2; omega)
  replace s := blk_kept s g2 zs
  replace c := blk_kept c g2 zc
  replace o := blk_kept o g2 zo
  clear z g2 O1
  have ck1 := k1.2.1
  have yk1 := k1.1
  go_wp2_with fail
  clear ck1 yk1
  refine (HS.out _ s).mono ?_
  rintro e3 w3 ⟨rfl, s3, g3⟩
  have zw3 := g3.size
  have O3 := O2.grown g3 (fun q hq => ⟨hsb q hq, (fs q hq).2⟩)
  replace of1 := of1.grown g3 (by omega) (fun q hq => (fs q hq).1)
  replace k1 := k1.grown g3 (fun h => by have := (fs _ h.symm).2; omega)
  replace z2 := blk_kept z2 g3 (fun p q h1 h2 h => zs q p h2 h1 h.symm)
  replace c := blk_kept c g3 sc
  replace o := blk_kept o g3 so
  clear s g3 O2
  have ck1 := k1.2.1
  have yk1 := k1.1
  go_wp2_with fail
  clear ck1 yk1
  refine (HC.out _ c).mono ?_
  rintro e4 w4 ⟨rfl, c4, g4⟩
  have zw4 := g4.size
  have O4 := O3.grown g4 (fun q hq => ⟨hcb q hq, (fc q hq).2⟩)
  replace of1 := of1.grown g4 (by omega) (fun q hq => (fc q hq).1)
  replace k1 := k1.grown g4 (fun h => by have := (fc _ h.symm).2; omega)
  replace z2 := blk_kept z2 g4 (fun p q h1 h2 h => zc q p h2 h1 h.symm)
  replace s3 := blk_kept s3 g4 (fun p q h1 h2 h => sc q p h2 h1 h.symm)
  replace o := blk_kept o g4 co
  clear c g4 O3
  have ck1 := k1.2.1
  have yk1 := k1.1
  go_wp2_with fail
  clear ck1 yk1
  refine (HO.out _ o).mono ?_
  rintro e5 w5 ⟨rfl, o5, g5⟩
  have zw5 := g5.size
  have O5 := O4.grown g5 (fun q hq => ⟨hob q hq, (fo q hq).2⟩)
  replace of1 := of1.grown g5 (by omega) (fun q hq => (fo q hq).1)
  replace z2 := blk_kept z2 g5 (fun p q h1 h2 h => zo q p h2 h1 h.symm)
  replace s3 := blk_kept s3 g5 (fun p q h1 h2 h => so q p h2 h1 h.symm)
  replace c4 := blk_kept c4 g5 (fun p q h1 h2 h => co q p h2 h1 h.symm)
  clear o g5 O4 k1
  go_wp2
  go_ret
  exact ⟨rfl, FIN.out _ (of1.to_f.base p1) z2 s3 c4 o5, O5⟩

set_option maxHeartbeats 1600000 in
set_option maxRecDepth 100000 in
theorem heldVm_any {b : Nat} (fv hv sv cv ov : Value) (L : VmL) (w : World) (N : MarM b w fv hv sv cv ov L) (hK : mk5 L ≤ 1048576000) :
    Calls Try.prog 12 #[vmV fv hv sv cv ov L, .int .i64 1] w fun e w' => e = .returned (.int .i64 (mk5 L)) ∧ Below w.heap.size w w' := by
  have hmk := mk_nonneg L
  have hoff := offF_all L.fs
  have e1 : mk1 L = 1 + offF L.fs L.fs.length := rfl
  have hlm : (mFuns 1 L.fs).length = L.fs.length := mixF_len 1 L.fs _
  have NB := fun (W : World) (hb : Below w.heap.size w W) => N.below hb
  have HF := Lib.hid (fun (W : World) (hb : Below w.heap.size w W) => (by have := heldFunS_any fv L.fs 1 W (RdF.of_own (NB W hb).f) (by omega) (by omega); rw [← e1] at this; exact this : Calls Try.prog 31 #[fv, .int .i64 1] W fun e w' => e = .returned (.int .i64 (mk1 L)) ∧ W = w'))
  have HZ := Lib.hid (fun (W : World) (hb : Below w.heap.size w W) => (by exact heldHeap_any hv L.h L.b L.n (mk1 L) W (Rd.of_own (NB W hb).z) (by omega) (by have : mk2 L = mk1 L + L.zs.length := rfl; omega) : Calls Try.prog 32 #[.agg #[hv, .int .i64 L.h, .int .i64 L.b, .int .i64 L.n], .int .i64 (mk1 L)] W fun e w' => e = .returned (.int .i64 (mk2 L)) ∧ Below W.heap.size W w'))
  have HS := Lib.hid (fun (W : World) (hb : Below w.heap.size w W) => (by exact (heldIntS_any sv (mk2 L) W (Rd.of_own (NB W hb).s) (by omega) (by have : mk3 L = mk2 L + L.ss.length := rfl; omega)).mono (fun e w' h => ⟨h.1, h.2.below _⟩) : Calls Try.prog 33 #[sv, .int .i64 (mk2 L)] W fun e w' => e = .returned (.int .i64 (mk3 L)) ∧ Below W.heap.size W w'))
  have HC := Lib.hid (fun (W : World) (hb : Below w.heap.size w W) => (by
    have hc := (NB W hb).c
    have : RdE O3.enc 3 W.heap.size W cv (mOps (mk3 L) L.cs.length) := RdE.of_own O3.enc_len (by rw [mOps_len]; exact hc)
    exact heldCallS_any cv (mk3 L) W this (by omega) (by have : mk4 L = mk3 L + 3 * L.cs.length := rfl; omega) : Calls Try.prog 34 #[cv, .int .i64 (mk3 L)] W fun e w' => e = .returned (.int .i64 (mk4 L)) ∧ W = w'))
  have HO := Lib.hid (fun (W : World) (hb : Below w.heap.size w W) => (by exact (heldIntS_any ov (mk4 L) W (Rd.of_own (NB W hb).o) (by omega) (by have : mk5 L = mk4 L + L.os.length := rfl; omega)).mono (fun e w' h => ⟨h.1, h.2.below _⟩) : Calls Try.prog 33 #[ov, .int .i64 (mk4 L)] W fun e w' => e = .returned (.int .i64 (mk5 L)) ∧ Below W.heap.size W w'))
  obtain ⟨f, z, s, c, o⟩ := N
  obtain ⟨fa, fcc, rfl⟩ := f.form
  obtain ⟨za, zcc, rfl⟩ := own_form z
  obtain ⟨sa, scc, rfl⟩ := own_form s
  obtain ⟨ca, ccc, rfl⟩ := own_form c
  obtain ⟨oa, occ, rfl⟩ := own_form o
  unfold vmV
  clear f z s c o NB e1 hoff hlm
  generalize (mFuns 1 L.fs).length = nf at *
  generalize L.zs.length = nz at *
  generalize L.ss.length = ns at *
  generalize L.cs.length = nc at *
  generalize L.os.length = no at *
  generalize mk1 L = m1 at *
  generalize mk2 L = m2 at *
  generalize mk3 L = m3 at *
  generalize mk4 L = m4 at *
  generalize mk5 L = m5 at *
  go_enter Try.func12, Try.ntmps12
  go_wp2_with fail
  generalize hx : w.alloc _ = x
  obtain ⟨bb, k1⟩ := Bx.alloc hx
  clear hx
  have ck1 := k1.2.1
  have yk1 := k1.1
  go_wp2_with fail
  refine (HF.out _ bb).mono ?_
  rintro e w1 ⟨rfl, rfl⟩
  go_wp2_with fail
  clear ck1 yk1
  refine (HZ.out _ bb).mono ?_
  rintro e w2 ⟨rfl, b2⟩
  replace k1 := k1.below b2 k1.1
  replace bb := bb.trans (b2.mono bb.size)
  clear b2
  have ck1 := k1.2.1
  have yk1 := k1.1
  go_wp2_with fail
  clear ck1 yk1
  refine (HS.out _ bb).mono ?_
  rintro e w3 ⟨rfl, b3⟩
  replace k1 := k1.below b3 k1.1
  replace bb := bb.trans (b3.mono bb.size)
  clear b3
  have ck1 := k1.2.1
  have yk1 := k1.1
  go_wp2_with fail
  clear ck1 yk1
  refine (HC.out _ bb).mono ?_
  rintro e w4 ⟨rfl, rfl⟩
  have ck1 := k1.2.1
  have yk1 := k1.1
  go_wp2_with fail
  clear ck1 yk1
  refine (HO.out _ bb).mono ?_
  rintro e w5 ⟨rfl, b5⟩
  replace bb := bb.trans (b5.mono bb.size)
  clear b5
  clear k1
  go_wp2
  go_ret
  exact ⟨rfl, bb⟩

end Go.Proofs.Ytlkdlcpfcacigaa
