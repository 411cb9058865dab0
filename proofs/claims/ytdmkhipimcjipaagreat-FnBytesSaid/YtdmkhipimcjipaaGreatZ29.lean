/- Parts of the proof of FnBytes. -/
import Derived.Test.YtdmkhipimcjipaaGreatZ14
import Derived.Test.YtdmkhipimcjipaaGreatZ19
import Derived.Test.YtdmkhipimcjipaaGreatZ20
import Derived.Test.YtdmkhipimcjipaaGreatZ21
import Derived.Test.YtdmkhipimcjipaaGreatZ22
import Derived.Test.YtdmkhipimcjipaaGreatZ23
import Derived.Test.YtdmkhipimcjipaaGreatZ24
import Derived.Test.YtdmkhipimcjipaaGreatZ25
import Derived.Test.YtdmkhipimcjipaaGreatZ15
import Derived.Test.YtdmkhipimcjipaaGreatZ13
import Derived.Test.YtdmkhipimcjipaaGreatZ16
set_option linter.unusedVariables false
set_option linter.unusedSimpArgs false
section
namespace Go.Proofs.YtdmkhipimcjipaaGreat
open Go.RowKit Go.Ev
set_option linter.unusedVariables false
set_option linter.unusedSimpArgs false
def funsA : List (List FunL) := [funs0, funs1, funs2, funs3, funs4, funs5, funs6]
theorem funs_small (k : Nat) (hk : k < 7) : (funsA.getD k []).length ≤ maxLen ∧ (∀ f ∈ funsA.getD k [], f.2.length ≤ maxLen) ∧ 0 < (funsA.getD k []).length := by
  have hk' : k = 0 ∨ k = 1 ∨ k = 2 ∨ k = 3 ∨ k = 4 ∨ k = 5 ∨ k = 6 := by omega
  rcases hk' with rfl | rfl | rfl | rfl | rfl | rfl | rfl <;> decide +kernel
theorem pipe_b (k : Nat) (hk : k < 7) : ∃ p b f uP uC uG, PipeB (srcs.getD k []) (funsA.getD k []) p b f uP uC uG := by
  have hk' : k = 0 ∨ k = 1 ∨ k = 2 ∨ k = 3 ∨ k = 4 ∨ k = 5 ∨ k = 6 := by omega
  rcases hk' with rfl | rfl | rfl | rfl | rfl | rfl | rfl
  · exact pipeB okB1_0 okB2_0
  · exact pipeB okB1_1 okB2_1
  · exact pipeB okB1_2 okB2_2
  · exact pipeB okB1_3 okB2_3
  · exact pipeB okB1_4 okB2_4
  · exact pipeB okB1_5 okB2_5
  · exact pipeB okB1_6 okB2_6
theorem setCell_block (w : World) (a : Addr) (v : Value) {q : Nat} (hq : q ≠ a.block) : (w.setCell a v).heap[q]? = w.heap[q]? := Below.heap_setCell _ _ _ _ (by first | exact hq | exact hq.symm)
theorem rel_put {ρ : Rho} {u : St} {w : World} (h : Rel ρ u w) {a : Addr} (ha : ∀ x sh z, ρ x ≠ some (a.block, sh, z)) (v : Value) : Rel ρ u (w.setCell a v) := by
  have hs : ∀ x cb sh z, ρ x = some (cb, sh, z) → (w.setCell a v).heap[cb]? = w.heap[cb]? := fun x cb sh z e => setCell_block w a v (fun h => ha x sh z (h ▸ e))
  refine ⟨h.dom, fun x cb sh z e => ?_, fun x cb sh z b e e' => ?_, h.inj, h.fam, h.nfl, h.lt⟩
  · rw [hs _ _ _ _ e]; exact h.blk x cb sh z e
  · obtain ⟨k1, k2⟩ := h.con x cb sh z b e e'
    refine ⟨k1, fun i sv hi => ?_⟩
    rw [World.cell?_of_block (a := ⟨cb, sh + i, none⟩) (hs _ _ _ _ e)]
    exact k2 i sv hi
structure Kq (n : Nat) (ρ : Rho) (u : St) (w : World) : Prop where
  rel : Rel ρ u w
  low : ∀ x cb sh z, ρ x = some (cb, sh, z) → n ≤ cb
  le : n ≤ w.heap.size
theorem Kq.later {n : Nat} {ρ : Rho} {u : St} {w w' : World} (h : Kq n ρ u w) (hb : Below w.heap.size w w') : Kq n ρ u w' := ⟨h.rel.later hb, h.low, Nat.le_trans h.le hb.size⟩
theorem Kq.put {n : Nat} {ρ : Rho} {u : St} {w : World} (h : Kq n ρ u w) {a : Addr} (ha : a.block < n) (v : Value) : Kq n ρ u (w.setCell a v) :=
  ⟨rel_put h.rel (fun x sh z e => by have := h.low _ _ _ _ e; omega) v, h.low, by rw [World.size_setCell]; exact h.le⟩
theorem Kq.ent {n : Nat} {P : Program} {g : Nat} {vs : List V} {u u' : St} {v : V} (E : Ent P g vs u v u') {ρ : Rho} {w : World} (h : Kq n ρ u w) {cargs : List Value} (hl : LR (VR ρ) vs cargs) :
    Calls P g cargs.toArray w fun e w' => ∃ cv ρ', e = .returned cv ∧ VR ρ' v cv ∧ Kq n ρ' u' w' ∧ Below n w w' ∧ Go.Ev.Left ρ w ρ' w' :=
  (E ρ w cargs hl h.rel).2.mono fun e w' ⟨cv, ρ', he, k1, k2, k3⟩ => ⟨cv, ρ', he, k1, ⟨k2, fun x cb sh z e => by
    rcases k3.new x cb sh z e with ⟨x0, sh0, z0, e0⟩ | hh
    · exact h.low _ _ _ _ e0
    · exact Nat.le_trans h.le hh, Nat.le_trans h.le k3.size⟩, k3.below h.le h.low, Left.of k3⟩
theorem Kq.far {n : Nat} {ρ : Rho} {u : St} {w w' : World} (h : Kq n ρ u w) {c : Nat} (hc : w.heap.size ≤ c) (h' : c < w'.heap.size) : Far ρ w' c := by
  refine ⟨h', fun x sh z e => ?_⟩
  obtain ⟨cs, el, e1, _⟩ := h.rel.blk x c sh z e
  rw [Array.getElem?_eq_none hc] at e1; cases e1
theorem Kq.zero (w : World) : Kq w.heap.size rho0 St.zero w := ⟨Rel.zero w, (fun x cb sh z e => by cases e), Nat.le_refl _⟩
theorem Dr.far {w W W' : World} {g n : Nat} {cv : Value} {m : Nat} (d : Dr w g cv m W) (hb : Below n W W') (hn : w.heap.size ≤ n) (hg : g < w.heap.size) : Dr w g cv m W' := by
  obtain ⟨i, x, k, hh⟩ := d.cur
  exact ⟨⟨hb.os.trans d.grown.os, hb.tape.trans d.grown.tape, hb.output.trans d.grown.output, Nat.le_trans d.grown.size hb.size, fun q h1 h2 => (hb.block q (by omega)).trans (d.grown.block q h1 h2)⟩, ⟨i, x, k.below hb (by omega), hh⟩⟩
theorem Dr.put {w W : World} {g : Nat} {cv : Value} {m : Nat} (d : Dr w g cv m W) {a : Addr} (ha : w.heap.size ≤ a.block) (hg : g < w.heap.size) (v : Value) : Dr w g cv m (W.setCell a v) :=
  d.far (n := w.heap.size) ((Below.refl _ _).setCell ha v) (Nat.le_refl _) hg
set_option maxHeartbeats 1600000 in
set_option maxRecDepth 100000 in
theorem l3DrawRight_any {B g : Nat} (cv : Value) (zs : List Int) (w : World) (hC : Cur w g cv zs.length) (hr : ∀ W, Below w.heap.size w W → Rd B .u8 W cv zs) (hz : bytesIn zs) (hl : zs.length ≤ 4294967296) (hg : B ≤ g) :
    Calls Tryz.prog 41 #[.pointer (some ⟨g, 0, none⟩)] w fun e w' => ∃ k p b f uP uC uG ρ n a0 a1 a2 a3 a4 a5, k < 7 ∧ PipeB (srcs.getD k []) (funsA.getD k []) p b f uP uC uG ∧
      e = .returned (.agg #[a0, a1, a2, a3, a4, a5]) ∧ LR (SR ρ) p [a0, a1, a2, a3, a4, a5] ∧ Kq n ρ uP w' ∧ w.heap.size ≤ n ∧ Dr w g cv zs.length w' := by
  have hlt : g < w.heap.size := hC.lt
  have HD := Lib.hid (fun (W : World) (hb : Below w.heap.size w W) => l2DrawSource_any cv zs W (hC.below hb) (fun W' hb' => hr W' (hb.trans (hb'.mono hb.size))) hz hl hg)
  have D0 := Lib.hid (Dr.refl hC)
  clear hC hr
  go_enter Tryz.func41, Tryz.ntmps41
  go_wp2_with fail
  generalize hxx : w.alloc _ = x0
  obtain ⟨b0, k0⟩ := Bx.alloc hxx
  clear hxx
  have z0 := k0.1
  refine (HD.out x0 b0).mono ?_
  rintro e w1 ⟨⟨x, k, rfl, hk, bs, rfl, hs⟩, d1⟩
  have D1 := Lib.hid ((D0.out.below b0).trans d1)
  replace k0 := d1.bx k0 (by omega)
  have z1 := d1.size
  clear b0 d1 D0 HD
  obtain ⟨p, b, f, uP, uC, uG, H⟩ := pipe_b k hk
  have HP := Lib.hid (show Calls Tryz.prog 46 #[.string bs] w1 fun e w' => ∃ cv ρ', e = .returned cv ∧ VR ρ' (.t [.a p, .c (.i (-1))]) cv ∧ Kq w1.heap.size ρ' uP w' ∧ Below w1.heap.size w1 w' ∧ Go.Ev.Left rho0 w1 ρ' w' from
    (Kq.zero w1).ent H.parse (cargs := [.string bs]) ⟨⟨bs, rfl, hs⟩, trivial⟩)
  have HH := Lib.hid H
  have hlen := Lib.hid H.len
  clear H hs
  go_wp2_with fail
  refine HP.out.mono ?_
  rintro e w2 ⟨cv2, ρ, rfl, v2, n2, b2, _⟩
  obtain ⟨a0, a1, a2, a3, a4, a5, rfl, lp⟩ := vr_prog v2 hlen.out
  have so := LR.one lp
  have s0 := st_one (so a0 (by simp))
  have s1 := st_one (so a1 (by simp))
  have s2 := st_one (so a2 (by simp))
  have s3 := st_one (so a3 (by simp))
  have s4 := st_one (so a4 (by simp))
  have s5 := st_one (so a5 (by simp))
  replace k0 := k0.below b2 (by omega)
  have z2 := b2.size
  have D2 := Lib.hid (D1.out.below b2)
  have N2 := Lib.hid n2
  have LP := Lib.hid lp
  clear v2 HP n2 lp so D1 b2
  have K0 := Lib.hid k0
  have ck0 := k0.2.1
  have yk0 := k0.1
  have zk0 := k0.2.2
  have hne : w2.heap.size ≠ w.heap.size := by omega
  go_wp2
  refine bodyPost_ret (v := .agg #[a0, a1, a2, a3, a4, a5]) ?_ rfl ⟨k, p, b, f, uP, uC, uG, ρ, w1.heap.size, a0, a1, a2, a3, a4, a5, hk, HH.out, rfl, LP.out, ?_, by omega, ?_⟩
  · have hk := (K0.out.set6 a0 a1 a2 a3 a4 a5).1
    generalize hy : World.alloc _ _ = W
    obtain ⟨by_, _⟩ := Bx.alloc hy
    have hc := (hk.below by_ hk.1).2.1
    simp [results, Tryz.results41, go_sem, hc]
  · refine Kq.later ?_ ((Below.refl _ _).alloc (Nat.le_refl _) _)
    repeat (with_reducible refine Kq.put ?_ (by dsimp only; omega) _)
    exact N2.out
  · refine Dr.below ?_ ((Below.refl _ _).alloc (Nat.le_refl _) _)
    repeat (with_reducible refine Dr.put ?_ (by dsimp only; omega) hlt _)
    exact D2.out
set_option maxHeartbeats 1600000 in
set_option maxRecDepth 100000 in
theorem l12DrawRight_any {B g : Nat} (cv : Value) (zs : List Int) (w : World) (hC : Cur w g cv zs.length) (hr : ∀ W, Below w.heap.size w W → Rd B .u8 W cv zs) (hz : bytesIn zs) (hl : zs.length ≤ 4294967296) (hg : B ≤ g) :
    Calls Tryz.prog 37 #[.pointer (some ⟨g, 0, none⟩)] w fun e w' => ∃ k p b f uP uC uG ρ n a0 a1 a2 a3 a4 a5 bv, k < 7 ∧ PipeB (srcs.getD k []) (funsA.getD k []) p b f uP uC uG ∧
      e = .returned (.tuple #[.agg #[a0, a1, a2, a3, a4, a5], bv]) ∧ (∀ x ∈ [a0, a1, a2, a3, a4, a5], x.oneCell' = true) ∧ SR ρ b bv ∧ Kq n ρ uC w' ∧ w.heap.size ≤ n ∧ Dr w g cv zs.length w' := by
  have hlt : g < w.heap.size := hC.lt
  have HD := Lib.hid (fun (W : World) (hb : Below w.heap.size w W) => l3DrawRight_any cv zs W (hC.below hb) (fun W' hb' => hr W' (hb.trans (hb'.mono hb.size))) hz hl hg)
  have D0 := Lib.hid (Dr.refl hC)
  clear hC hr
  go_enter Tryz.func37, Tryz.ntmps37
  go_wp2_with fail
  generalize hxx : w.alloc _ = x0
  obtain ⟨b0, k0⟩ := Bx.alloc hxx
  clear hxx
  have z0 := k0.1
  refine (HD.out x0 b0).mono ?_
  rintro e w1 ⟨k, p, b, f, uP, uC, uG, ρ, n, a0, a1, a2, a3, a4, a5, hk, H, rfl, lp, n1, hn, d1⟩
  have D1 := Lib.hid ((D0.out.below b0).trans d1)
  replace k0 := d1.bx k0 (by omega)
  have z1 := d1.size
  clear b0 d1 D0 HD
  have SO := LR.one lp
  have s0 := st_one (SO a0 (by simp))
  have s1 := st_one (SO a1 (by simp))
  have s2 := st_one (SO a2 (by simp))
  have s3 := st_one (SO a3 (by simp))
  have s4 := st_one (SO a4 (by simp))
  have s5 := st_one (SO a5 (by simp))
  have HH := Lib.hid H
  have LP := Lib.hid lp
  have SO' := Lib.hid SO
  clear H lp SO
  go_wp2_with fail
  generalize hxx : w1.alloc _ = w2
  obtain ⟨b2, k2⟩ := Bx.alloc hxx
  clear hxx
  have n2 := n1.later b2
  have z2 := b2.size
  replace k0 := k0.below b2 k0.1
  have D2 := Lib.hid (D1.out.below b2)
  clear b2 D1
  have f2 : Far ρ w2 w1.heap.size := n1.far (Nat.le_refl _) k2.1
  clear n1
  have HP := Lib.hid (show Calls Tryz.prog 42 #[.agg #[a0, a1, a2, a3, a4, a5]] w2 fun e w' => ∃ cv ρ', e = .returned cv ∧ VR ρ' (.t [.c b, .c (.b true)]) cv ∧ Kq n ρ' uC w' ∧ Below n w2 w' ∧ Go.Ev.Left ρ w2 ρ' w' from
    n2.ent HH.out.close (cargs := [.agg #[a0, a1, a2, a3, a4, a5]]) ⟨⟨_, rfl, LP.out⟩, trivial⟩)
  refine HP.out.mono ?_
  rintro e w3 ⟨cv3, ρ3, rfl, v3, n3, b3, l3⟩
  obtain ⟨bv, rfl, sb⟩ := vr_ct v3
  replace k2 := k2.left f2 l3
  replace k0 := k0.below b3 (by omega)
  have z3 := b3.size
  have D3 := Lib.hid (D2.out.far b3 (by omega) hlt)
  have N3 := Lib.hid n3
  have SB := Lib.hid sb
  clear v3 HP n2 n3 b3 l3 f2 D2 sb
  have K0 := Lib.hid k0
  have ck0 := k0.2.1
  have yk0 := k0.1
  have zk0 := k0.2.2
  have ck2 := k2.2.1
  have yk2 := k2.1
  have hne : w1.heap.size ≠ w.heap.size := by omega
  go_wp2
  refine bodyPost_ret (v := .tuple #[.agg #[a0, a1, a2, a3, a4, a5], bv]) ?_ rfl ⟨k, p, b, f, uP, uC, uG, ρ3, n, a0, a1, a2, a3, a4, a5, bv, hk, HH.out, rfl, SO'.out, SB.out, ?_, by omega, ?_⟩
  · have hk := (K0.out.set6 a0 a1 a2 a3 a4 a5).1
    have hc := hk.2.1
    simp [results, Tryz.results37, go_sem, hc]
  · repeat (with_reducible refine Kq.put ?_ (by dsimp only; omega) _)
    exact N3.out
  · repeat (with_reducible refine Dr.put ?_ (by dsimp only; omega) hlt _)
    exact D3.out
theorem Kq.funs {n : Nat} {ρ : Rho} {uG : St} {w : World} (h : Kq n ρ uG w) {L : List FunL} {f : S} {fv : Value} (sf : SR ρ f fv) (hf : funsIs (cellsAt uG) L f = true) (e : L.length ≤ maxLen ∧ (∀ f ∈ L, f.2.length ≤ maxLen) ∧ 0 < L.length) : RdF w.heap.size w fv (L.map toF2) := by
  have hB : ∀ x cb sh z, ρ x = some (cb, sh, z) → cb < w.heap.size := fun x cb sh z e => by
    obtain ⟨cs, el, f1, _⟩ := h.rel.blk x cb sh z e
    rcases Nat.lt_or_ge cb w.heap.size with h | h
    · exact h
    · rw [Array.getElem?_eq_none h] at f1; cases f1
  exact ev_funs_rd h.rel sf hB hf e.1 e.2.1 e.2.2
def fsA (k : Nat) : List F2 := (funsA.getD k []).map toF2
set_option maxHeartbeats 1600000 in
set_option maxRecDepth 100000 in
theorem l13DrawRight_any {B g : Nat} (cv : Value) (zs : List Int) (w : World) (hC : Cur w g cv zs.length) (hr : ∀ W, Below w.heap.size w W → Rd B .u8 W cv zs) (hz : bytesIn zs) (hl : zs.length ≤ 4294967296) (hg : B ≤ g) :
    Calls Tryz.prog 31 #[.pointer (some ⟨g, 0, none⟩)] w fun e w' => ∃ k a0 a1 a2 a3 a4 a5 fv, k < 7 ∧
      e = .returned (.tuple #[.agg #[a0, a1, a2, a3, a4, a5], fv]) ∧ (∀ x ∈ [a0, a1, a2, a3, a4, a5], x.oneCell' = true) ∧ RdF w'.heap.size w' fv (fsA k) ∧ Dr w g cv zs.length w' := by
  have hlt : g < w.heap.size := hC.lt
  have HD := Lib.hid (fun (W : World) (hb : Below w.heap.size w W) => l12DrawRight_any cv zs W (hC.below hb) (fun W' hb' => hr W' (hb.trans (hb'.mono hb.size))) hz hl hg)
  have D0 := Lib.hid (Dr.refl hC)
  clear hC hr
  go_enter Tryz.func31, Tryz.ntmps31
  go_wp2_with fail
  generalize hxx : w.alloc _ = x0
  obtain ⟨b0, k0⟩ := Bx.alloc hxx
  clear hxx
  have z0 := k0.1
  refine (HD.out x0 b0).mono ?_
  rintro e w1 ⟨k, p, b, f, uP, uC, uG, ρ, n, a0, a1, a2, a3, a4, a5, bv, hk, H, rfl, SO, sb, n1, hn, d1⟩
  have D1 := Lib.hid ((D0.out.below b0).trans d1)
  replace k0 := d1.bx k0 (by omega)
  have z1 := d1.size
  clear b0 d1 D0 HD
  have s0 := st_one (SO a0 (by simp))
  have s1 := st_one (SO a1 (by simp))
  have s2 := st_one (SO a2 (by simp))
  have s3 := st_one (SO a3 (by simp))
  have s4 := st_one (SO a4 (by simp))
  have s5 := st_one (SO a5 (by simp))
  have HH := Lib.hid H
  have SB := Lib.hid sb
  have SO' := Lib.hid SO
  clear H sb SO
  go_wp2_with fail
  generalize hxx : w1.alloc _ = w2
  obtain ⟨b2, k2⟩ := Bx.alloc hxx
  clear hxx
  have n2 := n1.later b2
  have z2 := b2.size
  replace k0 := k0.below b2 k0.1
  have D2 := Lib.hid (D1.out.below b2)
  clear b2 D1
  have f2 : Far ρ w2 w1.heap.size := n1.far (Nat.le_refl _) k2.1
  clear n1
  have HP := Lib.hid (show Calls Tryz.prog 38 #[bv] w2 fun e w' => ∃ cv ρ', e = .returned cv ∧ VR ρ' (.t [.c f, .c (.b true)]) cv ∧ Kq n ρ' uG w' ∧ Below n w2 w' ∧ Go.Ev.Left ρ w2 ρ' w' from
    n2.ent HH.out.gen (cargs := [bv]) ⟨SB.out, trivial⟩)
  refine HP.out.mono ?_
  rintro e w3 ⟨cv3, ρ3, rfl, v3, n3, b3, l3⟩
  obtain ⟨fv, rfl, sf⟩ := vr_ct v3
  replace k2 := k2.left f2 l3
  replace k0 := k0.below b3 (by omega)
  have z3 := b3.size
  have D3 := Lib.hid (D2.out.far b3 (by omega) hlt)
  have N3 := Lib.hid n3
  have SF := Lib.hid sf
  clear v3 HP n2 n3 b3 l3 f2 D2 sf SB
  have K0 := Lib.hid k0
  have ck0 := k0.2.1
  have yk0 := k0.1
  have zk0 := k0.2.2
  have ck2 := k2.2.1
  have yk2 := k2.1
  have hne : w1.heap.size ≠ w.heap.size := by omega
  go_wp2
  refine bodyPost_ret (v := .tuple #[.agg #[a0, a1, a2, a3, a4, a5], fv]) ?_ rfl ⟨k, a0, a1, a2, a3, a4, a5, fv, hk, rfl, SO'.out, ?_, ?_⟩
  · have hk := (K0.out.set6 a0 a1 a2 a3 a4 a5).1
    have hc := hk.2.1
    simp [results, Tryz.results31, go_sem, hc]
  · refine Kq.funs (n := n) (ρ := ρ3) (uG := uG) ?_ SF.out HH.out.funs (funs_small k hk)
    repeat (with_reducible refine Kq.put ?_ (by dsimp only; omega) _)
    exact N3.out
  · repeat (with_reducible refine Dr.put ?_ (by dsimp only; omega) hlt _)
    exact D3.out
end Go.Proofs.YtdmkhipimcjipaaGreat
end
section
namespace Go.Proofs.YtdmkhipimcjipaaGreat
open Go.RowKit Go.Ev
set_option linter.unusedVariables false
set_option linter.unusedSimpArgs false
theorem own_slc {base : Nat} {e : TypeId} {sz n : Nat} {w : World} {v : Value} {xs : List Value} (h : w.ownsRow base e sz v n xs) (hn : 0 < n) : ∃ g cap, v = .slice (some ⟨g, 0, none⟩) n cap ∧ base ≤ g ∧ g < w.heap.size := by
  rcases h.2 with ⟨_, h0⟩ | ⟨g, cap, cur, rfl, hb, _⟩
  · omega
  · exact ⟨g, cap, rfl, (h.lt g rfl).1, (h.lt g rfl).2⟩
theorem flatO_set {os : List O3} {m : Nat} (hm : m < os.length) (o : O3) : flat O3.enc (os.set m o) = (os.take m).flatMap O3.enc ++ (O3.enc o ++ (os.drop (m + 1)).flatMap O3.enc) := by
  unfold flat
  rw [List.set_eq_take_append_cons_drop, if_pos hm, List.flatMap_append, List.flatMap_cons]
theorem flatO_spl {os : List O3} {m : Nat} (hm : m < os.length) : flat O3.enc os = (os.take m).flatMap O3.enc ++ (O3.enc os[m] ++ (os.drop (m + 1)).flatMap O3.enc) ∧ ((os.take m).flatMap O3.enc).length = m * 3 := by
  constructor
  · have := flatO_set hm os[m]
    rw [List.set_getElem_self] at this
    exact this
  · have := flat_len O3.enc_len (os.take m)
    unfold flat at this
    rw [this, List.length_take, Nat.min_eq_left (by omega)]
theorem flatO_pt {os : List O3} {m i : Nat} (hm : m < os.length) (x : Int) (o : O3) (ho : (O3.enc os[m]).set i (.int .i64 x) = O3.enc o) (hi : i < 3) : (flat O3.enc os).set (m * 3 + i) (.int .i64 x) = flat O3.enc (os.set m o) := by
  obtain ⟨h1, hl⟩ := flatO_spl hm
  rw [h1, List.set_append_right _ _ (by omega), hl, show m * 3 + i - m * 3 = i from by omega, flatO_set hm, ← ho, List.set_append_left _ _ (by rw [O3.enc_len]; exact hi)]
theorem flatO_take {os : List O3} {n : Nat} (hn : n ≤ os.length) : (flat O3.enc os).take (n * 3) = flat O3.enc (os.take n) := by
  have e1 : flat O3.enc os = flat O3.enc (os.take n) ++ flat O3.enc (os.drop n) := by
    unfold flat
    rw [← List.flatMap_append, List.take_append_drop]
  have e2 : (flat O3.enc (os.take n)).length = n * 3 := by rw [flat_len O3.enc_len, List.length_take, Nat.min_eq_left (by omega)]
  rw [e1, List.take_append_of_le_length (by omega), List.take_of_length_le (by omega)]
structure FnsIn (fs : List F2) : Prop where
  fn : ∀ x ∈ fs, fnIn x
  len : fs.length ≤ 60
  os : ∀ x ∈ fs, x.os.length ≤ 300
def fsOkB (fs : List F2) : Bool := Nat.ble 1 fs.length && Nat.ble fs.length 60 && fs.all fun x => inB x.f (-9000) 9000 && (Nat.ble 1 x.os.length && Nat.ble x.os.length 300) && x.os.all fun o => inB o.c (-9000) 9000 && inB o.n (-9000000000) 9000000000 && inB o.m (-9000) 9000
theorem fsOkB_in {fs : List F2} (h : fsOkB fs = true) : FnsIn fs ∧ 1 ≤ fs.length ∧ ∀ x ∈ fs, 1 ≤ x.os.length := by
  unfold fsOkB at h
  simp only [Bool.and_eq_true, Nat.ble_eq, List.all_eq_true] at h
  obtain ⟨⟨h1, h2⟩, h3⟩ := h
  refine ⟨⟨fun x hx => ?_, h2, fun x hx => (h3 x hx).1.2.2⟩, h1, fun x hx => (h3 x hx).1.2.1⟩
  obtain ⟨⟨k1, _⟩, k3⟩ := h3 x hx
  have k1 := inB_true.1 k1
  refine ⟨by omega, fun o ho => ?_⟩
  obtain ⟨⟨j1, j2⟩, j3⟩ := k3 o ho
  have j1 := inB_true.1 j1
  have j2 := inB_true.1 j2
  have j3 := inB_true.1 j3
  unfold o3In
  omega
theorem fsA_in (k : Nat) (hk : k < 7) : FnsIn (fsA k) ∧ 1 ≤ (fsA k).length ∧ ∀ x ∈ fsA k, 1 ≤ x.os.length := by
  refine fsOkB_in ?_
  have hk' : k = 0 ∨ k = 1 ∨ k = 2 ∨ k = 3 ∨ k = 4 ∨ k = 5 ∨ k = 6 := by omega
  rcases hk' with rfl | rfl | rfl | rfl | rfl | rfl | rfl <;> decide +kernel
theorem fnsIn_tot {fs : List F2} (h : FnsIn fs) : tot fs ≤ 18000 := by
  have : ∀ l : List F2, (∀ x ∈ l, x.os.length ≤ 300) → tot l ≤ 300 * l.length := by
    intro l
    induction l with
    | nil => intro _; simp [tot]
    | cons x l ih =>
      intro hl
      have a := hl x (by simp)
      have b := ih (fun y hy => hl y (List.mem_cons_of_mem _ hy))
      unfold tot at b ⊢
      simp only [List.map_cons, List.sum_cons, List.length_cons]
      omega
  have := this fs h.os
  have := h.len
  omega
theorem FnsIn.set {fs : List F2} (h : FnsIn fs) (k : Nat) {x : F2} (hx : fnIn x) (ho : x.os.length ≤ 300) : FnsIn (fs.set k x) :=
  ⟨fun y hy => by rcases List.mem_or_eq_of_mem_set hy with hy | rfl; (· exact h.fn y hy); (· exact hx), by rw [List.length_set]; exact h.len, fun y hy => by rcases List.mem_or_eq_of_mem_set hy with hy | rfl; (· exact h.os y hy); (· exact ho)⟩
theorem FnsIn.take {fs : List F2} (h : FnsIn fs) (k : Nat) : FnsIn (fs.take k) :=
  ⟨fun y hy => h.fn y (List.mem_of_mem_take hy), by rw [List.length_take]; have := h.len; omega, fun y hy => h.os y (List.mem_of_mem_take hy)⟩
theorem fnIn_op {x : F2} (h : fnIn x) (m : Nat) {o : O3} (ho : o3In o) : fnIn ⟨x.f, x.os.set m o⟩ :=
  ⟨h.1, fun y hy => by rcases List.mem_or_eq_of_mem_set hy with hy | rfl; (· exact h.2 y hy); (· exact ho)⟩
theorem Swap.opAt {base hi : Nat} {w : World} {v : Value} {fs : List F2} {k : Nat} {f : F2} {g cap gu uc : Nat} (sw : Swap base hi w v fs k f g cap (.slice (some ⟨gu, 0, none⟩) f.os.length uc)) {m : Nat} (hm : m < f.os.length) (i : Nat) (hi3 : i < 3) (x : Int) (o : O3)
    (ho : (O3.enc f.os[m]).set i (.int .i64 x) = O3.enc o) : OwnH base hi (w.setCell ⟨gu, m * 3 + i, none⟩ (.int .i64 x)) v (fs.set k ⟨f.f, f.os.set m o⟩) := by
  refine sw.op _ _ (grownBy.setCell w gu (m * 3 + i) _) ?_
  have := own_setN sw.row (m * 3 + i) (by omega) (.int .i64 x)
  rw [flatO_pt hm x o ho hi3] at this
  rw [List.length_set]
  exact this
theorem Swap.cellAt {base hi : Nat} {w : World} {v : Value} {fs : List F2} {k : Nat} {f : F2} {g cap gu uc : Nat} (sw : Swap base hi w v fs k f g cap (.slice (some ⟨gu, 0, none⟩) f.os.length uc)) {m : Nat} (hm : m < f.os.length) (i : Nat) (hi3 : i < 3) :
    w.cell? ⟨gu, m * 3 + i, none⟩ = (O3.enc f.os[m])[i]? ∧ w.frozen? ⟨gu, m * 3 + i, none⟩ = false := by
  refine ⟨?_, own_frozen sw.row _⟩
  rw [own_cellN sw.row (m * 3 + i) (by omega)]
  exact flat_at O3.enc_len f.os m _ (List.getElem?_eq_getElem hm) i hi3
theorem swap_again {base hi : Nat} {w : World} {fs : List F2} {gl vc : Nat} {u : Value} {j : Nat} (oh : OwnH base hi w (.slice (some ⟨gl, 0, none⟩) fs.length vc) fs) (hj : j < fs.length) (hc : w.cell? ⟨gl, j * 2 + 1, none⟩ = some u) : Swap base hi w (.slice (some ⟨gl, 0, none⟩) fs.length vc) fs j fs[j] gl vc u := by
  obtain ⟨g, cap, u', sw⟩ := oh.swap hj
  have hv := sw.hv
  cases hv
  have := sw.c1
  rw [hc] at this
  obtain rfl := Option.some.inj this
  exact sw
set_option maxHeartbeats 6400000 in
set_option maxRecDepth 100000 in
theorem l13Draw_any {B g : Nat} (cv : Value) (zs : List Int) (w : World) (hC : Cur w g cv zs.length) (hr : ∀ W, Below w.heap.size w W → Rd B .u8 W cv zs) (hz : bytesIn zs) (hl : zs.length ≤ 4294967296) (hg : B ≤ g) :
    Calls Tryz.prog 25 #[.pointer (some ⟨g, 0, none⟩)] w fun e w' => ∃ v fs, e = .returned v ∧ RdF w'.heap.size w' v fs ∧ FnsIn fs ∧ Dr w g cv zs.length w' := by
  have hlt : g < w.heap.size := hC.lt
  have HD := Lib.hid (l13DrawRight_any cv zs w hC hr hz hl hg)
  have RD := fun (W : World) (d : Dr w g cv zs.length W) => (hr w (Below.refl _ _)).below (d.low hlt) hg
  have HB := Lib.hid (fun (n : Int) (W : World) (d : Dr w g cv zs.length W) (hn : i64In n) => l1Below_any cv zs n W d.cur (RD W d) hz hl hg hn)
  have HI := Lib.hid (fun (W : World) (u : Value) (ys : List Int) (B2 : Nat) (d : Dr w g cv zs.length W) (hy : Rd B2 .i64 W u ys) (h0 : 0 < ys.length) (h1 : ys.length ≤ 4294967296) (hne : ∀ a n c, u = .slice (some a) n c → a.block ≠ g) => l1PickInt_any cv u zs ys W d.cur (RD W d) hz hl hg hy h0 h1 hne)
  clear hC hr RD
  go_enter Tryz.func25, Tryz.ntmps25
  go_wp2_with fail
  refine HD.out.mono ?_
  rintro e w1 ⟨k, a0, a1, a2, a3, a4, a5, fv, hk, rfl, SO, rf, d1⟩
  have s0 := st_one (SO a0 (by simp))
  have s1 := st_one (SO a1 (by simp))
  have s2 := st_one (SO a2 (by simp))
  have s3 := st_one (SO a3 (by simp))
  have s4 := st_one (SO a4 (by simp))
  have s5 := st_one (SO a5 (by simp))
  obtain ⟨FI, hlen, hos⟩ := fsA_in k hk
  obtain ⟨fs, hfs⟩ : ∃ fs, fsA k = fs := ⟨_, rfl⟩
  rw [hfs] at rf FI hlen hos
  have htot := fnsIn_tot FI
  have hl60 := FI.len
  have z1 := d1.size
  have HCP := Lib.hid (fun (W : World) (hb : Below w1.heap.size w1 W) => l13Copy_any fv fs W (rf.below' hb) (by omega) (by omega))
  obtain ⟨fa, fc, rfl⟩ := rf.form
  clear SO HD hfs rf hk htot
  go_wp2_with fail
  generalize hxx : w1.alloc _ = w2
  obtain ⟨b2, _⟩ := Bx.alloc hxx
  clear hxx s0 s1 s2 s3 s4 s5
  have z2 := b2.size
  have d2 := d1.below b2
  refine (HCP.out w2 b2).mono ?_
  rintro e w3 ⟨v, rfl, of, b3⟩
  have d3 := d2.below b3
  have z3 := b3.size
  have oh := of.to_h
  obtain ⟨va, vc, rfl⟩ := oh.form
  clear HCP b2 b3 d1 d2 of
  have hle : ¬ ((fs.length : Int) = 0) := by omega
  go_wp2_with fail
  refine (HB.out (fs.length : Int) w3 d3 (by unfold i64In; omega)).mono ?_
  rintro e w4 ⟨⟨r, rfl, _, hr2⟩, c4, g4⟩
  obtain ⟨r0, r1⟩ := hr2 (by omega)
  obtain ⟨j, rfl⟩ := Int.eq_ofNat_of_zero_le r0
  have hj : j < fs.length := by omega
  have z4 := g4.size
  have d4 := d3.step c4 g4
  replace oh := oh.grown g4 (by omega) (fun q hq => by cases hq; omega)
  obtain ⟨gl, cap, u, sw⟩ := oh.swap hj
  have hv := sw.hv
  cases hv
  have hol := hos fs[j] (List.getElem_mem hj)
  have hol2 := FI.os fs[j] (List.getElem_mem hj)
  obtain ⟨gu, uc, rfl, hgu1, hgu2⟩ := own_slc sw.row (by omega)
  have hjl : (j : Int) < (fs.length : Int) := by omega
  have hole : ¬ ((fs[j].os.length : Int) = 0) := by omega
  have cu := sw.c1
  have hgb := sw.hg
  clear r0 r1 hr2 d3 g4 c4 sw
  go_wp2_with fail
  refine wp_region_held_drew (S := (fun w' => w'.cell? ⟨gl, j * 2 + 1, none⟩ = some (.slice (some ⟨gu, 0, none⟩) fs[j].os.length uc))) (by kernel_rfl) (by first | (dsimp only; exact cu) | (exact cu)) (fun hHeld => ?_)
  refine tkH (i := 0) ?_
  refine tkH (i := 1) ?_
  refine tkH (i := 2) ?_
  refine tkH (i := 3) ?_
  refine tkH (i := 4) ?_
  refine tkH (i := 5) ?_
  refine tkH (i := 6) ?_
  refine tkH (i := 7) ?_
  refine tkH (i := 8) ?_
  refine tkH (i := 9) ?_
  generalize hxd : w4.drew = w5 at hHeld
  have hd : Below w4.heap.size w4 w5 := by rw [← hxd]; exact (Below.refl _ _).drew
  have d5 := d4.below hd
  have z5 := hd.size
  replace oh := oh.below hd (by omega)
  clear hxd hd d4 cu
  refine rdH (i := 10) (fun K hK => ?_)
  go_simp
  refine (HB.out (fs[j].os.length : Int) w5 d5 (by unfold i64In; omega)).mono ?_
  rintro e w6 ⟨⟨r, rfl, _, hr2⟩, c6, g6⟩
  obtain ⟨r0, r1⟩ := hr2 (by omega)
  obtain ⟨m, rfl⟩ := Int.eq_ofNat_of_zero_le r0
  have hm : m < fs[j].os.length := by omega
  have hmi : (m : Int) < (fs[j].os.length : Int) := by omega
  have hcu : w6.cell? ⟨gl, j * 2 + 1, none⟩ = some (.slice (some ⟨gu, 0, none⟩) fs[j].os.length uc) := (World.cell?_of_block (a := ⟨gl, j * 2 + 1, none⟩) (g6.block gl (by omega) (fun e => by have := Option.some.inj e; omega))).trans hHeld
  refine bkH hK (by first | (dsimp only; exact hcu) | (exact hcu)) (fun hHeld => ?_)
  clear hK K
  have z6 := g6.size
  have d6 := d5.step c6 g6
  replace oh := oh.grown g6 (by omega) (fun q hq => by cases hq; omega)
  clear r0 r1 hr2 d5 g6 c6
  refine tkH (i := 11) ?_
  refine tkH (i := 12) ?_
  refine wpAnyH_done (by kernel_rfl) ?_ _
  go_wp2_with fail
  refine (HB.out 12 w6 d6 (by unfold i64In; omega)).mono ?_
  rintro e w7 ⟨⟨r, rfl, _, hr2⟩, cw7, g7⟩
  obtain ⟨r0, r1⟩ := hr2 (by omega)
  have zzw7 := g7.size
  have d7 := d6.step cw7 g7
  have hcu : w7.cell? ⟨gl, j * 2 + 1, none⟩ = some (.slice (some ⟨gu, 0, none⟩) fs[j].os.length uc) := (World.cell?_of_block (a := ⟨gl, j * 2 + 1, none⟩) (g7.block gl (by omega) (fun e => by have := Option.some.inj e; omega))).trans hcu
  replace oh := oh.grown g7 (by omega) (fun q hq => by cases hq; omega)
  clear hr2 cw7 g7 d6
  have hr' : r = 0 ∨ r = 1 ∨ r = 2 ∨ r = 3 ∨ r = 4 ∨ r = 5 ∨ 6 ≤ r := by omega
  have hfn := FI.fn fs[j] (List.getElem_mem hj)
  have hom := hfn.2 fs[j].os[m] (List.getElem_mem hm)
  rcases hr' with rfl | rfl | rfl | rfl | rfl | rfl | hr6
  · go_wp2_with fail
    refine (HB.out 24 w7 d7 (by unfold i64In; omega)).mono ?_
    rintro e w9 ⟨⟨x, rfl, _, hx2⟩, cw9, g9⟩
    obtain ⟨x0, x1⟩ := hx2 (by omega)
    have zzw9 := g9.size
    have d9 := d7.step cw9 g9
    have hcu : w9.cell? ⟨gl, j * 2 + 1, none⟩ = some (.slice (some ⟨gu, 0, none⟩) fs[j].os.length uc) := (World.cell?_of_block (a := ⟨gl, j * 2 + 1, none⟩) (g9.block gl (by omega) (fun e => by have := Option.some.inj e; omega))).trans hcu
    replace oh := oh.grown g9 (by omega) (fun q hq => by cases hq; omega)
    have sw := swap_again oh hj hcu
    clear hx2 cw9 g9 d7
    have FF := Lib.hid (FI.set j (fnIn_op hfn m (show o3In ⟨x - 1, fs[j].os[m].n, fs[j].os[m].m⟩ from by unfold o3In at hom ⊢; dsimp only; omega)) (by rw [List.length_set]; exact hol2))
    have DD := Lib.hid (d9.put (a := ⟨gu, m * 3 + 0, none⟩) (by dsimp only; omega) hlt (.int .i64 (x - 1)))
    have RR := Lib.hid (RdF.of_own (sw.opAt hm 0 (by decide) (x - 1) ⟨x - 1, fs[j].os[m].n, fs[j].os[m].m⟩ rfl).to_f)
    obtain ⟨q0, q1⟩ := sw.cellAt hm 0 (by decide)
    rw [Nat.add_zero] at q0 q1
    clear sw oh hcu hom hfn FI
    go_wp2
    go_ret
    exact ⟨_, _, rfl, RR.out, FF.out, DD.out⟩
  · go_wp2_with fail
    generalize hxx : w7.alloc _ = w8
    obtain ⟨b8, _⟩ := Bx.alloc hxx
    have ry := Rd.made hxx [-1, 0, 1, 2, 9, 99, 1073741824] rfl (by decide)
    clear hxx
    have d8 := d7.below b8
    have zw8 := b8.size
    have hcu := (b8.cell (p := ⟨gl, j * 2 + 1, none⟩) (by dsimp only; omega)).trans hcu
    replace oh := oh.below b8 (by omega)
    refine (HI.out w8 _ _ _ d8 ry (by decide) (by decide) (fun a n c e => by cases e; dsimp only; omega)).mono ?_
    rintro e w9 ⟨⟨x, rfl, hx⟩, cw9, g9⟩
    have hxi := all_in (by decide) hx
    unfold i64In at hxi
    have zzw9 := g9.size
    have d9 := d8.step cw9 g9
    have hcu : w9.cell? ⟨gl, j * 2 + 1, none⟩ = some (.slice (some ⟨gu, 0, none⟩) fs[j].os.length uc) := (World.cell?_of_block (a := ⟨gl, j * 2 + 1, none⟩) (g9.block gl (by omega) (fun e => by have := Option.some.inj e; omega))).trans hcu
    replace oh := oh.grown g9 (by omega) (fun q hq => by cases hq; omega)
    have sw := swap_again oh hj hcu
    clear hx cw9 g9 d7 d8 ry b8
    have FF := Lib.hid (FI.set j (fnIn_op hfn m (show o3In ⟨fs[j].os[m].c, x, fs[j].os[m].m⟩ from by unfold o3In at hom ⊢; dsimp only; omega)) (by rw [List.length_set]; exact hol2))
    have DD := Lib.hid (d9.put (a := ⟨gu, m * 3 + 1, none⟩) (by dsimp only; omega) hlt (.int .i64 x))
    have RR := Lib.hid (RdF.of_own (sw.opAt hm 1 (by decide) x ⟨fs[j].os[m].c, x, fs[j].os[m].m⟩ rfl).to_f)
    obtain ⟨q0, q1⟩ := sw.cellAt hm 1 (by decide)
    clear sw oh hcu hom hfn FI
    go_wp2
    go_ret
    exact ⟨_, _, rfl, RR.out, FF.out, DD.out⟩
  · go_wp2_with fail
    generalize hxx : w7.alloc _ = w8
    obtain ⟨b8, _⟩ := Bx.alloc hxx
    have ry := Rd.made hxx [-1, 0, 1, 2, 9, 99] rfl (by decide)
    clear hxx
    have d8 := d7.below b8
    have zw8 := b8.size
    have hcu := (b8.cell (p := ⟨gl, j * 2 + 1, none⟩) (by dsimp only; omega)).trans hcu
    replace oh := oh.below b8 (by omega)
    refine (HI.out w8 _ _ _ d8 ry (by decide) (by decide) (fun a n c e => by cases e; dsimp only; omega)).mono ?_
    rintro e w9 ⟨⟨x, rfl, hx⟩, cw9, g9⟩
    have hxi := all_in (by decide) hx
    unfold i64In at hxi
    have zzw9 := g9.size
    have d9 := d8.step cw9 g9
    have hcu : w9.cell? ⟨gl, j * 2 + 1, none⟩ = some (.slice (some ⟨gu, 0, none⟩) fs[j].os.length uc) := (World.cell?_of_block (a := ⟨gl, j * 2 + 1, none⟩) (g9.block gl (by omega) (fun e => by have := Option.some.inj e; omega))).trans hcu
    replace oh := oh.grown g9 (by omega) (fun q hq => by cases hq; omega)
    have sw := swap_again oh hj hcu
    clear hx cw9 g9 d7 d8 ry b8
    have FF := Lib.hid (FI.set j (fnIn_op hfn m (show o3In ⟨fs[j].os[m].c, fs[j].os[m].n, x⟩ from by unfold o3In at hom ⊢; dsimp only; omega)) (by rw [List.length_set]; exact hol2))
    have DD := Lib.hid (d9.put (a := ⟨gu, m * 3 + 2, none⟩) (by dsimp only; omega) hlt (.int .i64 x))
    have RR := Lib.hid (RdF.of_own (sw.opAt hm 2 (by decide) x ⟨fs[j].os[m].c, fs[j].os[m].n, x⟩ rfl).to_f)
    obtain ⟨q0, q1⟩ := sw.cellAt hm 2 (by decide)
    clear sw oh hcu hom hfn FI
    go_wp2
    go_ret
    exact ⟨_, _, rfl, RR.out, FF.out, DD.out⟩
  · go_wp2_with fail
    refine (HB.out 5 w7 d7 (by unfold i64In; omega)).mono ?_
    rintro e w9 ⟨⟨x, rfl, _, hx2⟩, cw9, g9⟩
    obtain ⟨x0, x1⟩ := hx2 (by omega)
    have zzw9 := g9.size
    have d9 := d7.step cw9 g9
    have hcu : w9.cell? ⟨gl, j * 2 + 1, none⟩ = some (.slice (some ⟨gu, 0, none⟩) fs[j].os.length uc) := (World.cell?_of_block (a := ⟨gl, j * 2 + 1, none⟩) (g9.block gl (by omega) (fun e => by have := Option.some.inj e; omega))).trans hcu
    replace oh := oh.grown g9 (by omega) (fun q hq => by cases hq; omega)
    have sw := swap_again oh hj hcu
    clear hx2 cw9 g9 d7
    have FF := Lib.hid (FI.set j (x := ⟨x - 1, fs[j].os⟩) ⟨by dsimp only; omega, hfn.2⟩ hol2)
    have DD := Lib.hid (d9.put (a := ⟨gl, j * 2, none⟩) (by dsimp only; omega) hlt (.int .i64 (x - 1)))
    have RR := Lib.hid (RdF.of_own (sw.free (x - 1)).to_f)
    have q0 := sw.c0
    have q1 := sw.f0
    clear sw oh hcu hom hfn FI
    go_wp2
    go_ret
    exact ⟨_, _, rfl, RR.out, FF.out, DD.out⟩
  · have sw0 := swap_again oh hj hcu
    have hcap2 := own_cap sw0.row
    clear sw0
    have hsub : IntKind.i64.wrap ((fs[j].os.length : Int) - 1) = ((fs[j].os.length - 1 : Nat) : Int) := by rw [IntWalk.i64_in _ (by omega)]; omega
    have hcp : ((fs[j].os.length - 1 : Nat) : Int) ≤ (uc : Int) := by omega
    go_wp2_with fail
    refine wp_region_tail_drew 14 (S := (fun w' => w'.cell? ⟨gl, j * 2 + 1, none⟩ = some (.slice (some ⟨gu, 0, none⟩) fs[j].os.length uc))) (by kernel_rfl) (by kernel_rfl) (by first | (dsimp only; exact hcu) | (exact hcu)) (fun hHeld => ?_)
    refine tkT (i := 0) ?_
    refine tkT (i := 1) ?_
    refine tkT (i := 2) ?_
    refine tkT (i := 3) ?_
    refine tkT (i := 4) ?_
    refine tkT (i := 5) ?_
    refine tkT (i := 6) ?_
    refine tkT (i := 7) ?_
    refine tkT (i := 8) ?_
    refine tkT (i := 9) ?_
    refine tkT (i := 10) ?_
    refine tkT (i := 11) ?_
    refine tkT (i := 12) ?_
    refine tkT (i := 13) ?_
    generalize hxd : w7.drew = w9 at hHeld
    have hd : Below w7.heap.size w7 w9 := by rw [← hxd]; exact (Below.refl _ _).drew
    have d9 := d7.below hd
    replace oh := oh.below hd (by omega)
    clear hxd hd d7 hcu
    have sw := swap_again oh hj hHeld
    have hlt' : (fs[j].os.take (fs[j].os.length - 1)).length = fs[j].os.length - 1 := by rw [List.length_take]; omega
    have row2 := own_short sw.row (Nat.sub_le fs[j].os.length 1) (by omega)
    rw [flatO_take (by omega)] at row2
    have FF := Lib.hid (FI.set j (x := ⟨fs[j].f, fs[j].os.take (fs[j].os.length - 1)⟩) ⟨hfn.1, fun y hy => hfn.2 y (List.mem_of_mem_take hy)⟩ (by dsimp only; omega))
    have DD := Lib.hid (d9.put (a := ⟨gl, j * 2 + 1, none⟩) (by dsimp only; omega) hlt (.slice (some ⟨gu, 0, none⟩) (fs[j].os.length - 1) uc))
    have RR := Lib.hid (RdF.of_own (sw.list (.slice (some ⟨gu, 0, none⟩) (fs[j].os.length - 1) uc) (fs[j].os.take (fs[j].os.length - 1)) rfl (by rw [hlt']; exact row2)).to_f)
    have q0 := sw.c1
    have q1 := sw.f1
    clear sw oh hom hfn FI row2 hlt'
    refine wpAnyT_done (by kernel_rfl) ?_
    dsimp only [List.drop]
    go_wp2
    go_ret
    exact ⟨_, _, rfl, RR.out, FF.out, DD.out⟩
  · have hcap : fs.length ≤ vc := by
      obtain ⟨xs, h1, _⟩ := oh.row
      exact own_cap h1
    have hcp : ((fs.length - 1 : Nat) : Int) ≤ (vc : Int) := by omega
    have hsub : IntKind.i64.wrap ((fs.length : Int) - 1) = ((fs.length - 1 : Nat) : Int) := by rw [IntWalk.i64_in _ (by omega)]; omega
    have RR := Lib.hid (RdF.of_own (oh.short rfl (Nat.sub_le _ 1) (by omega)).to_f)
    have FF := Lib.hid (FI.take (fs.length - 1))
    have DD := Lib.hid d7
    clear oh hcu hom hfn FI
    go_wp2
    go_ret
    exact ⟨_, _, rfl, RR.out, FF.out, DD.out⟩
  · have n0 : ¬ r = 0 := by omega
    have n1 : ¬ r = 1 := by omega
    have n2 : ¬ r = 2 := by omega
    have n3 : ¬ r = 3 := by omega
    have n4 : ¬ r = 4 := by omega
    have n5 : ¬ r = 5 := by omega
    have RR := Lib.hid (RdF.of_own oh.to_f)
    have FF := Lib.hid FI
    have DD := Lib.hid d7
    clear oh hcu hom hfn FI
    go_wp2
    go_ret
    exact ⟨_, _, rfl, RR.out, FF.out, DD.out⟩
end Go.Proofs.YtdmkhipimcjipaaGreat
end
section
namespace Go.Proofs.YtdmkhipimcjipaaGreat
open Go.RowKit
set_option linter.unusedVariables false
set_option linter.unusedSimpArgs false
set_option maxHeartbeats 1600000 in
set_option maxRecDepth 100000 in
theorem DrawPutNum_any {B : Nat} (v : Value) (zs : List Int) (w : World) (hr : Rd B .u8 w v zs) (hz : bytesIn zs) (hl : zs.length ≤ 4294967296) :
    Calls Tryz.prog 5 #[v] w fun e w' => (∃ x, e = .returned (.int .i64 x) ∧ i64In x) ∧ Below w.heap.size w w' := by
  have HN := Lib.hid (l1New_any v zs w hr hz hl)
  have RR := Lib.hid (fun (W : World) (hb : Below w.heap.size w W) => hr.below' hb)
  obtain ⟨a, c, rfl⟩ := hr.form
  clear hr
  go_enter Tryz.func5, Tryz.ntmps5
  go_wp2_with fail
  refine HN.out.mono ?_
  rintro e w1 ⟨⟨g, rfl, hg, c1⟩, b1⟩
  have B1 := Lib.hid b1
  have C1 := Lib.hid c1
  have z1 := b1.size
  clear c1 b1
  go_wp2_with fail
  generalize hxx : w1.alloc _ = w2
  obtain ⟨b2, _⟩ := Bx.alloc hxx
  have ry := Rd.made hxx [0, 1, 127, 128, 300, 16384, 2147483647, 2147483648, -1, 9223372036854775807] rfl (by decide)
  clear hxx
  have HD := Lib.hid (l1PickInt_any (g := g) _ _ zs _ w2 (C1.out.below b2) (RR.out _ (B1.out.trans (b2.mono z1))) hz hl hg ry (by decide) (by decide) (fun a n c e => by cases e; have := C1.out.lt; dsimp only; omega))
  have B2 := Lib.hid (B1.out.trans (b2.mono z1))
  clear b2 ry
  refine HD.out.mono ?_
  rintro e w3 ⟨⟨x, rfl, hx⟩, _, g3⟩
  have HX := Lib.hid (all_in (by decide) hx)
  have B3 := Lib.hid (B2.out.trans (Below.of_grown (B := w.heap.size) g3 B2.out.size (fun k hk => by cases hk; exact hg)))
  clear hx g3
  go_wp2
  go_ret
  exact ⟨⟨x, rfl, HX.out⟩, B3.out⟩
set_option maxHeartbeats 1600000 in
set_option maxRecDepth 100000 in
theorem DrawFunsBytes_any {B : Nat} (v : Value) (zs : List Int) (w : World) (hr : Rd B .u8 w v zs) (hz : bytesIn zs) (hl : zs.length ≤ 4294967296) :
    Calls Tryz.prog 11 #[v] w fun e w' => (∃ x fs, e = .returned x ∧ RdF w'.heap.size w' x fs ∧ FnsIn fs) ∧ Below w.heap.size w w' := by
  have HN := Lib.hid (l1New_any v zs w hr hz hl)
  have RR := Lib.hid (fun (W : World) (hb : Below w.heap.size w W) => hr.below' hb)
  obtain ⟨a, c, rfl⟩ := hr.form
  clear hr
  go_enter Tryz.func11, Tryz.ntmps11
  go_wp2_with fail
  refine HN.out.mono ?_
  rintro e w1 ⟨⟨g, rfl, hg, c1⟩, b1⟩
  have HD := Lib.hid (l13Draw_any (g := g) _ zs w1 c1 (fun W hb => RR.out W (b1.trans (hb.mono b1.size))) hz hl hg)
  have B1 := Lib.hid b1
  clear c1 b1
  go_wp2_with fail
  refine HD.out.mono ?_
  rintro e w2 ⟨x, fs, rfl, rf, hf, d2⟩
  have B2 := Lib.hid (B1.out.trans (Below.of_grown (B := w.heap.size) d2.grown B1.out.size (fun k hk => by cases hk; exact hg)))
  have RF := Lib.hid rf
  have HF := Lib.hid hf
  obtain ⟨fa, fc, rfl⟩ := rf.form
  clear rf hf d2
  go_wp2
  go_ret
  exact ⟨⟨_, fs, rfl, RF.out, HF.out⟩, B2.out⟩
def ByB (xs : List Int) : Prop := ∀ x ∈ xs, 0 ≤ x ∧ x ≤ 255
theorem putN_b (n : Nat) : ByB (putN n) := by
  induction n using Nat.strongRecOn with
  | _ n ih =>
    intro x hx
    by_cases h : 127 < n
    · rw [putN_big h] at hx
      rcases List.mem_cons.1 hx with rfl | hx
      · omega
      · exact ih (n / 128) (by omega) x hx
    · rw [putN_small h] at hx
      simp at hx
      omega
theorem putNum_b (n : Int) : ByB (putNum n) := by
  unfold putNum
  split
  · exact putN_b _
  · intro x hx; cases hx
theorem ByB.ok {xs : List Int} (h : ByB xs) : ∀ j, 0 ≤ xs.getD j 0 ∧ xs.getD j 0 ≤ 255 := by
  intro j
  rw [List.getD_eq_getElem?_getD]
  by_cases hj : j < xs.length
  · rw [List.getElem?_eq_getElem hj]
    exact h _ (List.getElem_mem hj)
  · rw [List.getElem?_eq_none (by omega)]
    simp
theorem ByB.append {xs ys : List Int} (h : ByB xs) (k : ByB ys) : ByB (xs ++ ys) := fun x hx => by
  rcases List.mem_append.1 hx with hx | hx
  · exact h x hx
  · exact k x hx
structure GN (w W : World) (g N : Nat) (cv : Value) (m : Nat) (b : Value) (xs : List Int) : Prop where
  cur : Cur W g cv m
  low : Below w.heap.size w W
  own : W.ownsRow N 5 1 b xs.length (xs.map (Value.int .u8))
  gN : g < N
  wg : w.heap.size ≤ g
  by_ : ByB xs
  le : N ≤ W.heap.size
theorem GN.below {w W W' : World} {g N : Nat} {cv : Value} {m : Nat} {b : Value} {xs : List Int} (h : GN w W g N cv m b xs) (hb : Below W.heap.size W W') : GN w W' g N cv m b xs :=
  ⟨h.cur.below hb, h.low.trans (hb.mono h.low.size), own_below h.own hb (own_lt h.own), h.gN, h.wg, h.by_, Nat.le_trans h.le hb.size⟩
theorem GN.draw {w W W' : World} {g N : Nat} {cv : Value} {m : Nat} {b : Value} {xs : List Int} (h : GN w W g N cv m b xs) (c : Cur W' g cv m) (hg : W.grownBy W' (some g)) : GN w W' g N cv m b xs :=
  ⟨c, h.low.trans (Below.of_grown (B := w.heap.size) hg h.low.size (fun k hk => by cases hk; exact h.wg)), h.own.kept hg (own_far h.own h.gN), h.gN, h.wg, h.by_, Nat.le_trans h.le hg.size⟩
theorem GN.app {w W W' : World} {g N : Nat} {cv : Value} {m : Nat} {b b' : Value} {xs ys : List Int} (h : GN w W g N cv m b xs) (o : W'.ownsRow N 5 1 b' (xs.length + ys.length) (xs.map (Value.int .u8) ++ ys.map (Value.int .u8))) (hg : W.grownBy W' b.ownBlock) (hy : ByB ys) : GN w W' g N cv m b' (xs ++ ys) := by
  rw [← List.map_append, ← List.length_append] at o
  refine ⟨h.cur.kept hg (fun e => ?_), h.low.trans (Below.of_grown (B := w.heap.size) hg h.low.size (fun k hk => ?_)), o, h.gN, h.wg, h.by_.append hy, Nat.le_trans h.le hg.size⟩
  · have := (h.own.lt g e.symm).1
    have := h.gN
    omega
  · have := (h.own.lt k hk).1
    have := h.gN
    have := h.wg
    omega
set_option maxHeartbeats 3200000 in
set_option maxRecDepth 100000 in
theorem DrawGetNum_any {B : Nat} (v : Value) (zs : List Int) (w : World) (hr : Rd B .u8 w v zs) (hz : bytesIn zs) (hl : zs.length ≤ 4294967296) :
    Calls Tryz.prog 9 #[v] w fun e w' => (∃ x ys k, e = .returned (.tuple #[x, .int .i64 k]) ∧ Rd w'.heap.size .u8 w' x ys ∧ ByB ys ∧ ys.length ≤ 100 ∧ i64In k) ∧ Below w.heap.size w w' := by
  obtain ⟨i0, hi, hz0, hz1, hz2⟩ := info_parts Tryz.infoU8
  have HN := Lib.hid (l1New_any v zs w hr hz hl)
  have RR := fun (W : World) (hb : Below w.heap.size w W) => hr.below' hb
  have HB := Lib.hid (fun (g : Nat) (n : Int) (W : World) (c : Cur W g v zs.length) (hb : Below w.heap.size w W) (hg : w.heap.size ≤ g) (hn : i64In n) => l1Below_any v zs n W c (RR W hb) hz hl hg hn)
  have HO := Lib.hid (fun (g : Nat) (n : Int) (W : World) (c : Cur W g v zs.length) (hb : Below w.heap.size w W) (hg : w.heap.size ≤ g) (hn : i64In n) => l1Once_any v zs n W c (RR W hb) hz hl hg hn)
  have HI := Lib.hid (fun (g : Nat) (W : World) (u : Value) (ys : List Int) (B2 : Nat) (c : Cur W g v zs.length) (hb : Below w.heap.size w W) (hg : w.heap.size ≤ g) (hy : Rd B2 .i64 W u ys) (h0 : 0 < ys.length) (h1 : ys.length ≤ 4294967296) (hne : ∀ a n c, u = .slice (some a) n c → a.block ≠ g) => l1PickInt_any v u zs ys W c (RR W hb) hz hl hg hy h0 h1 hne)
  obtain ⟨a, c, rfl⟩ := hr.form
  clear hr RR
  go_enter Tryz.func9, Tryz.ntmps9
  go_wp2_with fail
  refine HN.out.mono ?_
  rintro e w1 ⟨⟨g, rfl, hg, c1⟩, b1⟩
  have z1 := b1.size
  have hg1 := c1.lt
  go_wp2_with fail
  generalize hxx : w1.alloc _ = w2
  obtain ⟨b2, _⟩ := Bx.alloc hxx
  have G2 : GN w w2 g w1.heap.size _ zs.length (.slice (some ⟨w1.heap.size, 0, none⟩) 0 0) [] := ⟨c1.below b2, b1.trans (b2.mono z1), by rw [← hxx]; exact own_empty rfl (Nat.le_refl _), hg1, hg, (fun x hx => by cases hx), by rw [← hxx, World.size_alloc]; omega⟩
  clear hxx b2 c1 b1 HN
  go_wp2
  go_loopw [5, 6] (fun s i wr => ∃ (k : Nat) (b : Value) (xs : List Int), k ≤ 3 ∧ i = .int .i64 k ∧ s = b ∧ GN w wr g w1.heap.size (.slice a zs.length c) zs.length b xs ∧ xs.length ≤ 5 * k) (fun _ i _ => 3 - (intOf i).toNat)
  case atStart => exact ⟨0, _, [], by omega, rfl, rfl, G2, by simp⟩
  case round =>
    clear G2
    obtain ⟨k, b, xs, hk, rfl, rfl, G, hlx⟩ := hrel
    have hgw := G.cur.lt
    go_wp2_with fail
    refine (HB.out g 4 wr G.cur G.low hg (by unfold i64In; omega)).mono ?_
    rintro e w3 ⟨⟨r, rfl, _, hr2⟩, c3, g3⟩
    obtain ⟨r0, r1⟩ := hr2 (by omega)
    have G3 := G.draw c3 g3
    clear hr2 c3 g3 G
    by_cases hkr : (k : Int) < r
    · go_wp2_with fail
      generalize hxx : w3.alloc _ = w4
      obtain ⟨b4, _⟩ := Bx.alloc hxx
      have ry := Rd.made hxx [0, 1, 127, 128, 300, 2147483647] rfl (by decide)
      clear hxx
      have hgw3 := G3.cur.lt
      have G4 := G3.below b4
      clear G3 b4
      refine (HI.out g w4 _ _ _ G4.cur G4.low hg ry (by decide) (by decide) (fun a n c e => by cases e; dsimp only; omega)).mono ?_
      rintro e w5 ⟨⟨x, rfl, hx⟩, c5, g5⟩
      have hxi := all_in (by decide) hx
      have G5 := G4.draw c5 g5
      clear hx c5 g5 G4 ry
      go_wp2_with fail
      refine (sPutNum_any x w5).mono ?_
      rintro e w6 ⟨u, rfl, ou, b6⟩
      have G6 := G5.below b6
      obtain ⟨ua, uc, rfl⟩ := own_form ou
      have hpl := putNum_len5 x
      clear G5 b6
      go_wp2_with (at_builtin; refine wpList_app_rd (B := w6.heap.size) (k := .u8) _ rfl (.tmp 16) (.tmp 20) 22 rfl w1.heap.size 5 i0 (.int .u8 0) 1 Tryz.underlying22 hi hz0 hz1 hz2 rfl _ _ _ (by rfl) G6.own ua (putNum x).length uc (putNum x) (by rfl) (Rd.of_own ou) (by omega) (by decide) G6.le ?_)
      intro v7 w7 o7 g7 alt
      have G7 := G6.app o7 g7 (putNum_b x)
      clear o7 g7 alt G6 ou
      have hlx7 : (xs ++ putNum x).length ≤ 5 * (k + 1) := by rw [List.length_append]; omega
      go_wp2
      go_roundw
      case rel => exact ⟨k + 1, _, _, by omega, by go_num, rfl, G7, hlx7⟩
      case measure => simp [intOf]; omega
    · go_wp2_with fail
      refine (HO.out g 3 w3 G3.cur G3.low hg (by unfold i64In; omega)).mono ?_
      rintro e w8 ⟨⟨bo, rfl⟩, c8, g8⟩
      have G8 := G3.draw c8 g8
      clear c8 g8 G3
      cases bo with
      | false =>
        have G9 := G8
        have hl9 : xs.length ≤ 100 := by omega
        clear G8
        have hgw := G9.cur.lt
        have hbx := G9.by_
        have hlx9 := G9.own.1
        obtain ⟨ba, bc, rfl⟩ := own_form G9.own
        go_wp2_with fail
        generalize hxx : World.alloc _ _ = wa
        obtain ⟨ba1, _⟩ := Bx.alloc hxx
        have ry := Rd.made hxx [0, 0, 1, (xs.length : Int), (xs.length : Int) - 5, -1, 9223372036854775807] rfl (by simp)
        clear hxx
        have GA := G9.below ba1
        clear G9 ba1
        refine (HI.out g wa _ _ _ GA.cur GA.low hg ry (by simp) (by simp) (fun a n c e => by cases e; dsimp only; omega)).mono ?_
        rintro e wb ⟨⟨x, rfl, hx⟩, cb, gb⟩
        have hxi : i64In x := by
          simp only [List.mem_cons, List.not_mem_nil, or_false] at hx
          unfold i64In
          omega
        have GB := Lib.hid (GA.draw cb gb)
        have HX := Lib.hid hxi
        clear hx cb gb GA ry hxi
        go_wp2
        go_ret2
        exact ⟨⟨_, _, x, rfl, Rd.of_own GB.out.own, GB.out.by_, hl9, HX.out⟩, GB.out.low⟩
      | true =>
        have hgw := G8.cur.lt
        go_wp2_with fail
        generalize hxx : World.alloc _ _ = wp
        obtain ⟨bp, _⟩ := Bx.alloc hxx
        have ry := Rd.made hxx [0, 128, 255] rfl (by decide)
        clear hxx
        have GP := G8.below bp
        clear G8 bp
        refine (HI.out g wp _ _ _ GP.cur GP.low hg ry (by decide) (by decide) (fun a n c e => by cases e; dsimp only; omega)).mono ?_
        rintro e wq ⟨⟨x1, rfl, hx1⟩, cq, gq⟩
        have hx1i : 0 ≤ x1 ∧ x1 ≤ 255 := by
          simp only [List.mem_cons, List.not_mem_nil, or_false] at hx1
          omega
        have GQ := GP.draw cq gq
        clear hx1 cq gq GP ry
        go_wp2_with fail
        refine (HB.out g 3 wq GQ.cur GQ.low hg (by unfold i64In; omega)).mono ?_
        rintro e wr2 ⟨⟨x2, rfl, _, hx2⟩, cr, gr⟩
        obtain ⟨x20, x21⟩ := hx2 (by omega)
        have GR := GQ.draw cr gr
        clear hx2 cr gr GQ
        have hgw2 := GR.cur.lt
        have hw1 : IntKind.u8.wrap x1 = x1 := by rw [IntWalk.u8_in _ (by omega)]
        have hw2 : IntKind.u8.wrap x2 = x2 := by rw [IntWalk.u8_in _ (by omega)]
        have hfit := GR.le
        go_wp2_with (at_builtin; generalize hxx : World.alloc _ _ = ws; refine wpList_app_rd (B := ws.heap.size) (k := .u8) _ rfl (.tmp 24) (.tmp 32) 22 rfl w1.heap.size 5 i0 (.int .u8 0) 1 Tryz.underlying22 hi hz0 hz1 hz2 rfl _ _ _ (by rfl) (GR.below (Bx.alloc hxx).1).own (some ⟨wr2.heap.size, 0, none⟩) 2 2 [x1, x2] (by rfl) (Rd.of_own (zs := [x1, x2]) (own_made hxx hfit 2 rfl (by unfold maxLen; omega))) (by omega) (by decide) (GR.below (Bx.alloc hxx).1).le ?_)
        intro v9 w9 o9 g9 alt
        have GS := GR.below (Bx.alloc hxx).1
        have G9 := GS.app (ys := [x1, x2]) o9 g9 (fun y hy => by
          simp only [List.mem_cons, List.not_mem_nil, or_false] at hy
          omega)
        have hl9 : (xs ++ [x1, x2]).length ≤ 100 := by rw [List.length_append]; simp; omega
        clear o9 g9 alt GS hxx GR hw1 hw2
        have hgw := G9.cur.lt
        have hbx := G9.by_
        have hlx9 := G9.own.1
        obtain ⟨ba, bc, rfl⟩ := own_form G9.own
        go_wp2_with fail
        generalize hxx : World.alloc _ _ = wa
        obtain ⟨ba1, _⟩ := Bx.alloc hxx
        have ry := Rd.made hxx [0, 0, 1, (xs.length : Int) + 2, (xs.length : Int) + 2 - 5, -1, 9223372036854775807] rfl (by simp)
        clear hxx
        have GA := G9.below ba1
        clear G9 ba1
        refine (HI.out g wa _ _ _ GA.cur GA.low hg ry (by simp) (by simp) (fun a n c e => by cases e; dsimp only; omega)).mono ?_
        rintro e wb ⟨⟨x, rfl, hx⟩, cb, gb⟩
        have hxi : i64In x := by
          simp only [List.mem_cons, List.not_mem_nil, or_false] at hx
          unfold i64In
          omega
        have GB := Lib.hid (GA.draw cb gb)
        have HX := Lib.hid hxi
        clear hx cb gb GA ry hxi
        go_wp2
        go_ret2
        exact ⟨⟨_, _, x, rfl, (by have h := Rd.of_own GB.out.own; rw [List.length_append] at h; exact h), GB.out.by_, hl9, HX.out⟩, GB.out.low⟩
end Go.Proofs.YtdmkhipimcjipaaGreat
end
