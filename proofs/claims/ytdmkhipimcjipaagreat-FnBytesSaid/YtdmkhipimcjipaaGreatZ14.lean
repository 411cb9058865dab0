/- Parts of the proof of FnBytes. -/
import Derived.Test.YtdmkhipimcjipaaGreatZ13
import Derived.Test.YtdmkhipimcjipaaGreatZ12
import Derived.Test.YtdmkhipimcjipaaGreatRows
import Derived.Lib.SliceRun
import Derived.Maps.AppendAt
import Derived.Deep.RegionHeld3
import Derived.Deep.DrawnRows
import Derived.Deep.AppendLies
import Derived.OwnWalk
set_option linter.unusedVariables false
set_option linter.unusedSimpArgs false
section
namespace Go.Proofs.YtdmkhipimcjipaaGreat
open Go.RowKit
set_option linter.unusedVariables false
set_option linter.unusedSimpArgs false
def srcs : List (List Nat) := [Go.Ev.src0, Go.Ev.src1, Go.Ev.src2, Go.Ev.src3, Go.Ev.src4, Go.Ev.src5, Go.Ev.src6]
def StrIs (v : Value) (s : List Nat) : Prop := ∃ bs : ByteArray, v = .string bs ∧ bs.data.toList.map UInt8.toNat = s
def TxtRow (w : World) (g : Nat) (n : Nat) : Prop := g < w.heap.size ∧ ∀ k, k < n → ∃ v, w.cell? ⟨g, k, none⟩ = some v ∧ StrIs v (srcs.getD k [])
set_option maxHeartbeats 1600000 in
set_option maxRecDepth 100000 in
theorem l2Programs_any (w : World) :
    Calls Tryz.prog 61 #[] w fun e w' => ∃ g, e = .returned (.slice (some ⟨g, 0, none⟩) 7 7) ∧ w.heap.size ≤ g ∧ TxtRow w' g 7 ∧ Below w.heap.size w w' := by
  go_enter Tryz.func61, Tryz.ntmps61
  go_wp2
  go_ret
  refine ⟨_, rfl, Nat.le_refl _, ⟨by simp, fun k hk => ?_⟩, (Below.refl _ _).alloc (Nat.le_refl _) _⟩
  have hk' : k = 0 ∨ k = 1 ∨ k = 2 ∨ k = 3 ∨ k = 4 ∨ k = 5 ∨ k = 6 := by omega
  rw [World.cell?_alloc_at _ _ _ _ rfl]
  rcases hk' with rfl | rfl | rfl | rfl | rfl | rfl | rfl
  all_goals exact ⟨_, rfl, _, rfl, by decide +kernel⟩
set_option maxHeartbeats 1600000 in
set_option maxRecDepth 100000 in
theorem l1Pick_any {B g b : Nat} (v : Value) (zs : List Int) (w : World) (hC : Cur w g v zs.length) (hr : Rd B .u8 w v zs) (hz : bytesIn zs) (hl : zs.length ≤ 4294967296) (hg : B ≤ g)
    (hT : TxtRow w b 7) (hne : b ≠ g) :
    Calls Tryz.prog 60 #[.pointer (some ⟨g, 0, none⟩), .slice (some ⟨b, 0, none⟩) 7 7] w fun e w' => (∃ x k, e = .returned x ∧ k < 7 ∧ StrIs x (srcs.getD k [])) ∧ Cur w' g v zs.length ∧ w.grownBy w' (some g) := by
  have HB := Lib.hid (fun (W : World) (hC : Cur W g v zs.length) (hr : Rd B .u8 W v zs) => l1Below_any v zs 7 W hC hr hz hl hg (by unfold i64In; omega))
  have HC := Lib.hid hC
  have HR := Lib.hid hr
  have HT := Lib.hid hT
  clear hC hr hT
  go_enter Tryz.func60, Tryz.ntmps60
  go_wp2_with fail
  refine (HB.out w HC.out HR.out).mono ?_
  rintro e w1 ⟨⟨r, rfl, _, hr2⟩, c1, g1⟩
  obtain ⟨r0, r1⟩ := hr2 (by omega)
  obtain ⟨k, rfl⟩ := Int.eq_ofNat_of_zero_le r0
  have hk : k < 7 := by omega
  obtain ⟨x, c0, sx⟩ := HT.out.2 k hk
  have c0 := (g1.cell_far ⟨b, k, none⟩ HT.out.1 (by intro h; exact hne (Option.some.inj h))).trans c0
  have C1 := Lib.hid c1
  have G1 := Lib.hid g1
  obtain ⟨bs, hx, hs⟩ := sx
  subst hx
  have HS := Lib.hid hs
  clear c1 g1 hr2 hs
  go_wp2
  go_ret
  exact ⟨⟨_, k, rfl, hk, _, rfl, HS.out⟩, C1.out, G1.out⟩
structure Dr (w : World) (g : Nat) (cv : Value) (m : Nat) (W : World) : Prop where
  grown : w.grownBy W (some g)
  cur : Cur W g cv m
theorem Dr.below {w W W' : World} {g : Nat} {cv : Value} {m : Nat} (d : Dr w g cv m W) (hb : Below W.heap.size W W') : Dr w g cv m W' :=
  ⟨⟨hb.os.trans d.grown.os, hb.tape.trans d.grown.tape, hb.output.trans d.grown.output, Nat.le_trans d.grown.size hb.size, fun q h1 h2 => (hb.block q (Nat.lt_of_lt_of_le h1 d.grown.size)).trans (d.grown.block q h1 h2)⟩, d.cur.below hb⟩
theorem Dr.step {w W W' : World} {g : Nat} {cv : Value} {m : Nat} (d : Dr w g cv m W) (c : Cur W' g cv m) (hg : W.grownBy W' (some g)) : Dr w g cv m W' := ⟨grow_step d.grown hg (fun i hi => .inl (Option.some.inj hi).symm), c⟩
theorem Dr.refl {w : World} {g : Nat} {cv : Value} {m : Nat} (c : Cur w g cv m) : Dr w g cv m w := ⟨grownBy.refl _ _, c⟩
theorem Dr.trans {w W W' : World} {g : Nat} {cv : Value} {m : Nat} (d : Dr w g cv m W) (d' : Dr W g cv m W') : Dr w g cv m W' := d.step d'.cur d'.grown
theorem Dr.size {w W : World} {g : Nat} {cv : Value} {m : Nat} (d : Dr w g cv m W) : w.heap.size ≤ W.heap.size := d.grown.size
theorem Dr.low {w W : World} {g : Nat} {cv : Value} {m : Nat} (d : Dr w g cv m W) (hg : g < w.heap.size) : Below g w W := Below.of_grown d.grown (by omega) (fun k hk => by cases hk; exact Nat.le_refl _)
theorem Dr.bx {w W : World} {g : Nat} {cv : Value} {m : Nat} (d : Dr w g cv m W) {b : Nat} {cur : Array Value} (k : Bx w b cur) (hb : b ≠ g) : Bx W b cur := k.grown d.grown (fun e => hb (Option.some.inj e))
set_option maxHeartbeats 1600000 in
set_option maxRecDepth 100000 in
theorem l2DrawSource_any {B g : Nat} (v : Value) (zs : List Int) (w : World) (hC : Cur w g v zs.length) (hr : ∀ W, Below w.heap.size w W → Rd B .u8 W v zs) (hz : bytesIn zs) (hl : zs.length ≤ 4294967296) (hg : B ≤ g) :
    Calls Tryz.prog 47 #[.pointer (some ⟨g, 0, none⟩)] w fun e w' => (∃ x k, e = .returned x ∧ k < 7 ∧ StrIs x (srcs.getD k [])) ∧ Dr w g v zs.length w' := by
  have HP := Lib.hid (l2Programs_any w)
  have HR := Lib.hid hr
  have HC := Lib.hid hC
  have hlt : g < w.heap.size := hC.lt
  clear hr hC
  go_enter Tryz.func47, Tryz.ntmps47
  go_wp2_with fail
  refine HP.out.mono ?_
  rintro e w1 ⟨b, rfl, hb, ht, b1⟩
  have HQ := Lib.hid (l1Pick_any v zs w1 (HC.out.below b1) (HR.out _ b1) hz hl hg ht (by omega))
  have B1 := Lib.hid b1
  clear ht b1
  go_wp2_with fail
  refine HQ.out.mono ?_
  rintro e w2 ⟨⟨x, k, rfl, hk, sx⟩, c2, g2⟩
  have B2 := Lib.hid (show Dr w g v zs.length w2 from ((Dr.refl HC.out).below B1.out).step c2 g2)
  obtain ⟨bs, hx, hs⟩ := sx
  subst hx
  have HS := Lib.hid hs
  clear c2 g2 hs
  go_wp2
  go_ret
  exact ⟨⟨_, k, rfl, hk, _, rfl, HS.out⟩, B2.out⟩
end Go.Proofs.YtdmkhipimcjipaaGreat
end
section
namespace Go.Proofs.YtdmkhipimcjipaaGreat
open Go.RowKit Go.Ev
set_option linter.unusedVariables false
set_option linter.unusedSimpArgs false
theorem st_one {v : Value} (h : v.oneCell' = true) (w : World) (a : Addr) (m : Mode) : (store a v m).run Tryz.prog w = stored Tryz.prog w a v m := run_store Tryz.prog w a v m h
theorem lr_six {ρ : Rho} {p : List S} {l : List Value} (h : LR (SR ρ) p l) (hp : p.length = 6) : ∃ a0 a1 a2 a3 a4 a5, l = [a0, a1, a2, a3, a4, a5] := by
  have hl : l.length = 6 := by rw [← h.length]; exact hp
  match l, hl with
  | [a0, a1, a2, a3, a4, a5], _ => exact ⟨_, _, _, _, _, _, rfl⟩
theorem arr_of {α : Type} {a : Array α} {l : List α} (h : a.toList = l) : a = l.toArray := by subst h; simp
theorem vr_prog {ρ : Rho} {p : List S} {cv : Value} (h : VR ρ (.t [.a p, .c (.i (-1))]) cv) (hp : p.length = 6) :
    ∃ a0 a1 a2 a3 a4 a5, cv = .tuple #[.agg #[a0, a1, a2, a3, a4, a5], .int .i64 (-1)] ∧ LR (SR ρ) p [a0, a1, a2, a3, a4, a5] := by
  obtain ⟨arr, rfl, k⟩ := h
  match hm : arr.toList, k with
  | [x, y], k =>
    obtain ⟨k1, k2, _⟩ := k
    obtain ⟨ar, rfl, k3⟩ := k1
    obtain ⟨a0, a1, a2, a3, a4, a5, e⟩ := lr_six k3 hp
    have k2' : y = .int .i64 (-1) := k2
    subst k2'
    rw [e] at k3
    refine ⟨a0, a1, a2, a3, a4, a5, ?_, k3⟩
    rw [arr_of hm, arr_of e]
  | [], k => exact k.elim
  | [_], k => exact k.2.elim
  | _ :: _ :: _ :: _, k => exact k.2.2.elim
theorem vr_ct {ρ : Rho} {b : S} {cv : Value} (h : VR ρ (.t [.c b, .c (.b true)]) cv) : ∃ x, cv = .tuple #[x, .bool true] ∧ SR ρ b x := by
  obtain ⟨arr, rfl, k⟩ := h
  match hm : arr.toList, k with
  | [x, y], k =>
    obtain ⟨k1, k2, _⟩ := k
    have k2' : y = .bool true := k2
    subst k2'
    exact ⟨x, by rw [arr_of hm], k1⟩
  | [], k => exact k.elim
  | [_], k => exact k.2.elim
  | _ :: _ :: _ :: _, k => exact k.2.2.elim
theorem Bx.left {ρ ρ' : Rho} {w w' : World} {g : Nat} {cur : Array Value} (h : Bx w g cur) (hf : Far ρ w g) (L : Go.Ev.Left ρ w ρ' w') : Bx w' g cur := by
  obtain ⟨⟨h1, _⟩, h2⟩ := L.keep g hf
  exact ⟨h1, fun j => (World.cell?_of_block (w := w) (a := ⟨g, j, none⟩) h2).trans (h.2.1 j), fun j => (World.frozen?_of_block (w := w) (a := ⟨g, j, none⟩) h2).trans (h.2.2 j)⟩
theorem Bx.set6 {w : World} {g : Nat} {z0 z1 z2 z3 z4 z5 : Value} (k : Bx w g #[z0, z1, z2, z3, z4, z5]) (a0 a1 a2 a3 a4 a5 : Value) : Bx ((((((w.setCell ⟨g, 0, none⟩ a0).setCell ⟨g, 1, none⟩ a1).setCell ⟨g, 2, none⟩ a2).setCell ⟨g, 3, none⟩ a3).setCell ⟨g, 4, none⟩ a4).setCell ⟨g, 5, none⟩ a5) g #[a0, a1, a2, a3, a4, a5] ∧ Below g w ((((((w.setCell ⟨g, 0, none⟩ a0).setCell ⟨g, 1, none⟩ a1).setCell ⟨g, 2, none⟩ a2).setCell ⟨g, 3, none⟩ a3).setCell ⟨g, 4, none⟩ a4).setCell ⟨g, 5, none⟩ a5) := by
  have := ((((((k.set_ 0 (by simp) a0).set_ 1 (by simp) a1).set_ 2 (by simp) a2).set_ 3 (by simp) a3).set_ 4 (by simp) a4).set_ 5 (by simp) a5)
  exact ⟨by simpa using this, ((((((Below.refl g w).setCell (p := ⟨g, 0, none⟩) (Nat.le_refl g) a0).setCell (p := ⟨g, 1, none⟩) (Nat.le_refl g) a1).setCell (p := ⟨g, 2, none⟩) (Nat.le_refl g) a2).setCell (p := ⟨g, 3, none⟩) (Nat.le_refl g) a3).setCell (p := ⟨g, 4, none⟩) (Nat.le_refl g) a4).setCell (p := ⟨g, 5, none⟩) (Nat.le_refl g) a5⟩
end Go.Proofs.YtdmkhipimcjipaaGreat
end
section
set_option linter.unusedVariables false
set_option linter.unusedSimpArgs false
set_option maxRecDepth 20000
namespace Go.Ev
open Go Go.Proofs.Tryz
noncomputable def noK : CallK := fun _ _ _ _ => false
theorem noK_rel : CallRel noK noExt := fun g vs s k u r h => by cases h
noncomputable def callK : CallK := fnK tbl 100000 noK 400
noncomputable def callE : Nat → List V → St → Option (V × St) := fn tbl 100000 noExt 400
theorem callK_rel : CallRel callK callE := fnK_ok noK_rel 400
theorem callE_ok : CallOk prog callE := table_ok tyOk ibsOk follows tblOk 100000 400
noncomputable def tblN : T MFn := T.upd none tbl 48
theorem tblN_ok : TblOk prog ty ibs (cDraw ty ibs) tblN := by
  intro g f h
  unfold tblN at h
  rw [T.get_upd] at h
  split at h
  · cases h
  · exact tblOk g f h
theorem rs_zero : RS KS.zero St.zero := by
  have hall : ∀ (α : Type) (a : α) (n x : Nat), (lens α n x).g (Tw.all a n) = a := by
    intro α a n
    induction n with
    | zero => intro x; rfl
    | succ n ih =>
      intro x
      show (Ln.comp (sel (Tw α n) (Nat.mod x 8)) (lens α n (Nat.div x 8))).g (N8.all (Tw.all a n)) = a
      rw [Ln.comp_g]
      have : (sel (Tw α n) (Nat.mod x 8)).g (N8.all (Tw.all a n)) = Tw.all a n := by
        have h1 : Nat.mod x 8 < 8 := Nat.mod_lt _ (by decide)
        generalize Nat.mod x 8 = d at h1
        have h2 : d = 0 ∨ d = 1 ∨ d = 2 ∨ d = 3 ∨ d = 4 ∨ d = 5 ∨ d = 6 ∨ d = 7 := by omega
        rcases h2 with rfl | rfl | rfl | rfl | rfl | rfl | rfl | rfl <;> rfl
      rw [this, ih]
  have hg : ∀ x, getK KS.zero x = none := by
    intro x
    show (blkL x).g HK.zero = none
    by_cases h : x ≤ 262143
    · rw [blk_ok h]
      show (Ln.comp (lens (Tw (Option KB) 3) 3 (x % 512)) (lens (Option KB) 3 (x / 512))).g HK.zero = none
      rw [Ln.comp_g]
      have e1 : (lens (Tw (Option KB) 3) 3 (x % 512)).g HK.zero = Tw.all none 3 := hall _ _ _ _
      rw [e1]; exact hall _ _ _ _
    · rw [blk_bad h]
  exact ⟨rfl, rfl, rfl, fun x => by rw [hg]; exact T.get_lf x, fun x b h => by rw [hg] at h; cases h⟩
theorem WF.alloc {u : St} (h : WF u) (l : List S) : WF (Ev.alloc u l) := by
  have hget : ∀ x, (Ev.alloc u l).h.get x = if x = u.nb then some (⟨l, 0, 0⟩ : Bk) else u.h.get x := fun x => by show (T.upd (some ⟨l, 0, 0⟩) u.h u.nb).get x = _; rw [T.get_upd]
  refine ⟨fun x b f hx hf => ?_, fun x b hx => ?_, fun x b hx => ?_⟩
  · rw [hget] at hx
    split at hx
    · simp only [Option.some.injEq] at hx; subst hx; cases hf
    · exact h.fam x b f hx hf
  · rw [hget] at hx
    split at hx
    · simp only [Option.some.injEq] at hx; subst hx; exact Nat.zero_le _
    · exact h.nfl x b hx
  · rw [hget] at hx
    show x < Nat.succ u.nb
    split at hx
    · rename_i e; subst e; exact Nat.lt_succ_self _
    · exact Nat.lt_succ_of_lt (h.lt x b hx)
theorem keep_of {g : Nat} {vs : List V} {sQ : KS} {u : St} (r : RS sQ u) {chk : V → Bool} {v' : V} (hw : ∀ v, chk v = true → Wk v v') (h : callK g vs sQ (fun v s => chk v && sameK sQ s sQ.nb) = true) : EntK prog g vs u v' := by
  obtain ⟨v, s', u', h1, h2, h3⟩ := callK_rel g vs sQ _ u r h
  obtain ⟨h4, h5⟩ := (Bool.and_eq_true _ _).mp h3
  refine ent_keep (ent_of callE_ok h1) (hw v h4) fun x b hx hb => ?_
  rw [← same_of r h2 h5 x (by rw [← r.nb]; exact hx)]; exact hb
noncomputable def runB1 (src : List Nat) : Bool := callK 46 [.c (.s src)] KS.zero fun v sP => isP v fun p => Nat.beq (llen p) 6 && allocK sP (mkB p 0 0) fun sQ =>
  callK 48 [.a p] sQ fun v s => isI 11 v && sameK sQ s sQ.nb
noncomputable def runB2 (src : List Nat) (L : List FunL) : Bool := callK 46 [.c (.s src)] KS.zero fun v sP => isP v fun p => allocK sP (mkB p 0 0) fun sQ =>
  fnK tblN 100000 (extK 48 [.a p] sQ (unT 11)) 400 42 [.a p] sP fun v sC => isCT v fun b => callK 38 [.c b] sC fun v sG => isCT v fun f => funsIs (cellsK sG) L f
structure PipeB (src : List Nat) (L : List FunL) (p : List S) (b f : S) (uP uC uG : St) : Prop where
  parse : Ent prog 46 [.c (.s src)] St.zero (.t [.a p, .c (.i (-1))]) uP
  close : Ent prog 42 [.a p] uP (.t [.c b, .c (.b true)]) uC
  gen : Ent prog 38 [.c b] uC (.t [.c f, .c (.b true)]) uG
  len : p.length = 6
  funs : funsIs (cellsAt uG) L f = true
theorem pipeB {src : List Nat} {L : List FunL} (h1 : runB1 src = true) (h2 : runB2 src L = true) : ∃ p b f uP uC uG, PipeB src L p b f uP uC uG := by
  obtain ⟨v, sP, uP, a1, a2, a3⟩ := callK_rel _ _ _ _ _ rs_zero h1
  obtain ⟨p, rfl, a4⟩ := isP_some a3
  obtain ⟨a40, a4⟩ := (Bool.and_eq_true _ _).mp a4
  have a41 : p.length = 6 := by rw [← llen_eq]; exact Nat.eq_of_beq_eq_true a40
  obtain ⟨sQ, a5, a6⟩ := a2.alloc a4
  have hI := keep_of a6 (fun v => isI_wk) a5
  obtain ⟨v, sP', uP', b1, b2, b3⟩ := callK_rel _ _ _ _ _ rs_zero h2
  rw [a1] at b1
  simp only [Option.some.injEq, Prod.mk.injEq] at b1
  obtain ⟨rfl, rfl⟩ := b1
  obtain ⟨p', hp', b4⟩ := isP_some b3
  simp only [V.t.injEq, List.cons.injEq, V.a.injEq, and_true] at hp'
  subst hp'
  obtain ⟨sQ', c2, b6⟩ := b2.alloc b4
  obtain ⟨v, sC, uC, d1, d2, d3⟩ := fnK_ok (tbl := tblN) (N := 100000) (ext_rel (g₀ := 48) (vs₀ := [.a p]) (v₀ := unT 11) b6) 400 _ _ _ _ _ b2 c2
  obtain ⟨b, rfl, d4⟩ := isCT_some d3
  obtain ⟨v, sG, uG, e1, e2, e3⟩ := callK_rel _ _ _ _ _ d2 d4
  obtain ⟨f, rfl, e4⟩ := isCT_some e3
  refine ⟨p, b, f, uP, uC, uG, ent_of callE_ok a1, ?_, ent_of callE_ok e1, a41, funsIs_mono (fun x o n l h => e2.cells h) e4⟩
  intro ρ w cargs hl hr
  have hext := ext_ok hI (hr.wf.alloc p)
  have hcall : CallOk prog (fn tblN 100000 (extE 48 [.a p] (Ev.alloc uP p) (unT 11)) 400) :=
    fn_sound tyOk ibsOk tblN_ok 100000 (fun call nt hc => draw_ok follows tyOk ibsOk hc) hext 400
  exact hcall _ _ _ _ _ d1 ρ w cargs hl hr
end Go.Ev
end
section
namespace Go.Proofs.YtdmkhipimcjipaaGreat
open Go.RowKit
set_option linter.unusedVariables false
theorem Tryz.infoFun : (Tryz.prog.info? 48).map (fun i => (i.zero, i.size, i.bytes)) = some (some (.agg #[.int .i64 0, .slice none 0 0]), 2, 32) := by kernel_rfl
end Go.Proofs.YtdmkhipimcjipaaGreat
end
section
namespace Go.Proofs.YtdmkhipimcjipaaGreat
open Go.RowKit
set_option linter.unusedVariables false
theorem Rd.news {B : Nat} {k : IntKind} {w w' : World} {ad : Addr} {n cap : Nat} {zs : List Int} (h : Rd B k w (.slice (some ad) n cap) zs) (hb : Below w.heap.size w w') :
    n = zs.length ∧ ∀ j u, (zs.map (Value.int k))[j]? = some u → w'.cell? (ad.add j) = some u := by
  rcases h with ⟨rfl, a, c, hv⟩ | ⟨b, off, c, hv, _, hbs, _, hc⟩
  · cases hv
    exact ⟨rfl, fun j u hj => by simp at hj⟩
  · cases hv
    refine ⟨rfl, fun j u hj => ?_⟩
    have hjl : j < zs.length := by
      rw [List.getElem?_map] at hj
      by_cases h : j < zs.length
      · exact h
      · rw [List.getElem?_eq_none (by omega)] at hj; cases hj
    have hadd : (⟨b, off, none⟩ : Addr).add j = ⟨b, off + j, none⟩ := by unfold Addr.add; split <;> simp_all
    rw [hadd, hb.cell (p := ⟨b, off + j, none⟩) hbs, hc j hjl]
    rw [List.getElem?_map, List.getElem?_eq_getElem hjl] at hj
    rw [← hj]
    simp [List.getD, List.getElem?_eq_getElem hjl]
theorem Rd.none_nil {B : Nat} {k : IntKind} {w : World} {n cap : Nat} {zs : List Int} (h : Rd B k w (.slice none n cap) zs) : zs = [] := by
  rcases h with ⟨rfl, _⟩ | ⟨b, off, c, hv, _⟩
  · rfl
  · cases hv
theorem ints_one (k : IntKind) (zs : List Int) : ∀ u ∈ zs.map (Value.int k), u.oneCell' = true := by
  intro u hu
  obtain ⟨x, _, rfl⟩ := List.mem_map.1 hu
  rfl
end Go.Proofs.YtdmkhipimcjipaaGreat
end
section
namespace Go.Proofs.YtdmkhipimcjipaaGreat
open Go.RowKit
set_option linter.unusedVariables false
section
variable {P : Program} (w : World)
theorem run_app_rd (base : Nat) (t ty e : TypeId) (i : TypeInfo) (z : Value) (bytes : Nat) (ht : P.underlying t = some (.slice e)) (hi : P.info? e = some i) (hz : i.zero = some z)
    (hsize : i.size = 1) (hby : i.bytes = bytes) (hzs : z.cells.size = 1)
    (v : Value) (n : Nat) (xs : List Value) (hown : w.ownsRow base e 1 v n xs) {B : Nat} {k : IntKind} (A : Option Addr) (m c : Nat) (zs : List Int) (hr : Rd B k w (.slice A m c) zs)
    (h63 : n + m ≤ maxLen) (hbytes : (n + m) * bytes ≤ 140737488355328) (hbase : base ≤ w.heap.size) :
    ∃ v' w', (Builtin.append_ #[t, t] ty #[v, .slice A m c]).run P w = .ok v' w' ∧ w'.ownsRow base e 1 v' (n + m) (xs ++ zs.map (Value.int k)) ∧ w.grownBy w' v.ownBlock ∧
      (v'.ownBlock = v.ownBlock ∨ v'.ownBlock = some w.heap.size) := by
  cases A with
  | none =>
    have hz' : zs = [] := hr.none_nil
    subst hz'
    obtain ⟨a', c', hf⟩ := hr.form
    cases hf
    refine ⟨v, w, ?_, by simpa using hown, grownBy.refl w _, .inl rfl⟩
    rcases hown.2 with ⟨rfl, rfl⟩ | ⟨g, cap, cur, rfl, _, _, hnc, _⟩
    · simp [Builtin.append_, run_underlying ht, sizeOf, typeInfo, hi, Builtin.lenOf, Builtin.firstCells]
    · simp [Builtin.append_, run_underlying ht, sizeOf, typeInfo, hi, Builtin.lenOf, Builtin.firstCells, hnc, storeCells]
  | some ad =>
    obtain ⟨rfl, hc⟩ := hr.news (Below.refl _ _)
    obtain ⟨v', w', h1, h2, h3, _, h5⟩ := run_append_own_at (P := P) w base t ty e i z 1 bytes ht hi hz hsize hby hzs (by decide) v n xs hown ad zs.length c (zs.map (Value.int k)) (by simp) hc (ints_one k zs) h63 hbytes hbase
    exact ⟨v', w', h1, h2, h3, h5⟩
theorem wpList_app_rd {ops : Array Oper} {rest : List Oper} {o : Oper} {a : Act} {Q : Exit → Act → World → Prop} (hgd : o.guard = none) (s x : Operand) (t : TypeId)
    (ho : o.op = .call { callee := .builtin .append, args := #[s, x], argTypes := #[t, t] })
    (base : Nat) (e : TypeId) (i : TypeInfo) (z : Value) (bytes : Nat) (ht : P.underlying t = some (.slice e)) (hi : P.info? e = some i) (hz : i.zero = some z)
    (hsize : i.size = 1) (hby : i.bytes = bytes) (hzs : z.cells.size = 1)
    (v : Value) (n : Nat) (xs : List Value) (hs : a.eval s = v) (hown : w.ownsRow base e 1 v n xs)
    {B : Nat} {k : IntKind} (A : Option Addr) (m c : Nat) (zs : List Int) (hx : a.eval x = .slice A m c) (hr : Rd B k w (.slice A m c) zs)
    (h63 : n + m ≤ 4294967296) (hbytes : bytes ≤ 1000) (hbase : base ≤ w.heap.size)
    (h : ∀ v' w', w'.ownsRow base e 1 v' (n + m) (xs ++ zs.map (Value.int k)) → w.grownBy w' v.ownBlock → (v'.ownBlock = v.ownBlock ∨ v'.ownBlock = some w.heap.size) → wpList P ops Q rest (a.put o.dst v') w') : wpList P ops Q (o :: rest) a w := by
  refine wpList_plain hgd fun _ hK => ?_
  obtain ⟨v', w', hrun, h2, h3, h4⟩ := run_app_rd (P := P) w base t o.type e i z bytes ht hi hz hsize hby hzs v n xs hown A m c zs hr (by unfold maxLen; omega) (by
    have : (n + m) * bytes ≤ 4294967296 * 1000 := Nat.mul_le_mul h63 hbytes
    omega) hbase
  unfold Oper.wp execOp
  simp only [ho, resolve, invoke, builtin, Sem.run_bind, Sem.run_pure, Result.andThen_ok, List.map_toArray, List.map_cons, List.map_nil, hs, hx, hrun]
  exact hK _ _ (h v' w' h2 h3 h4)
end
theorem wpList_app1_at {P : Program} {w : World} {ops : Array Oper} {rest : List Oper} {o : Oper} {a : Act} {Q : Exit → Act → World → Prop} (hgd : o.guard = none) (s x : Operand) (t : TypeId)
    (ho : o.op = .call { callee := .builtin .append, args := #[s, x], argTypes := #[t, t] })
    (base : Nat) (e : TypeId) (i : TypeInfo) (z : Value) (size bytes : Nat) (ht : P.underlying t = some (.slice e)) (hi : P.info? e = some i) (hz : i.zero = some z)
    (hsize : i.size = size) (hby : i.bytes = bytes) (hzs : z.cells.size = size) (hsz : 0 < size)
    (v : Value) (n : Nat) (xs : List Value) (hs : a.eval s = v) (hown : w.ownsRow base e size v n xs) (us : Array Value) (hus : us.size = size) (h1 : ∀ u ∈ us.toList, u.oneCell' = true)
    (H : Nat) (hH : w.heap.size = H) (hx : a.eval x = .slice (some ⟨H, 0, none⟩) 1 1)
    (h63 : n + 1 ≤ maxLen) (hbytes : (n + 1) * bytes ≤ 140737488355328) (hbase : base ≤ w.heap.size)
    (h : ∀ v' w', w'.ownsRow base e size v' (n + 1) (xs ++ us.toList) → w.grownBy w' v.ownBlock → (v'.ownBlock = v.ownBlock ∨ v'.ownBlock = some (H + 1)) → wpList P ops Q rest (a.put o.dst v') w') :
    wpList P ops Q (o :: rest) a (w.alloc (.cells us e)) := by
  subst hH
  refine wpList_plain hgd fun K hK => ?_
  obtain ⟨v', w', hrun, h2, h3, _, h5⟩ := run_append_own_at (P := P) (w.alloc (.cells us e)) base t o.type e i z size bytes ht hi hz hsize hby hzs hsz v n xs (hown.alloc _) ⟨w.heap.size, 0, none⟩ 1 1 us.toList (by simp [hus]) (by
    intro j u hj
    have hadd : (⟨w.heap.size, 0, none⟩ : Addr).add j = ⟨w.heap.size, j, none⟩ := by unfold Addr.add; split <;> simp_all
    rw [hadd, World.cell?_alloc_at _ _ _ _ rfl]
    simpa using hj) h1 h63 hbytes (by simp; omega)
  unfold Oper.wp execOp
  simp only [ho, resolve, invoke, builtin, Sem.run_bind, Sem.run_pure, Result.andThen_ok, List.map_toArray, List.map_cons, List.map_nil, hs, hx, hrun]
  exact hK _ _ (h v' w' h2 ((World.grownBy_alloc w _ _).trans' h3) (by simpa using h5))
theorem alloc_cell {x : World} {o : Obj} {p : Addr} (h : p.block < x.heap.size) : (x.alloc o).cell? p = x.cell? p := ((Below.refl x.heap.size x).alloc (Nat.le_refl _) o).cell h
def cellAt (w : World) (p : Addr) : Value := (w.cell? p).getD undef
def Has (w : World) (p : Addr) : Prop := ∃ u, w.cell? p = some u
theorem Has.drew {w : World} {p : Addr} (h : Has w p) : Has w.drew p := h
theorem Has.alloc {w : World} {p : Addr} (h : Has w p) (hp : p.block < w.heap.size) (o : Obj) : Has (w.alloc o) p := by
  obtain ⟨u, hu⟩ := h
  exact ⟨u, (alloc_cell hp).trans hu⟩
theorem Has.grown {w w' : World} {p : Addr} {row : Option Nat} (h : Has w p) (hg : w.grownBy w' row) (hp : p.block < w.heap.size) (hne : some p.block ≠ row) : Has w' p := by
  obtain ⟨u, hu⟩ := h
  exact ⟨u, (hg.cell_far p hp hne).trans hu⟩
theorem Has.setCell {w : World} {p : Addr} (h : Has w p) (q : Addr) (x : Value) : Has (w.setCell q x) p := by
  obtain ⟨u, hu⟩ := h
  obtain ⟨v, hv⟩ := cell?_setCell_some (w := w) (p := q) (x := x) (q := p) (v := u) hu
  exact ⟨v, hv⟩
end Go.Proofs.YtdmkhipimcjipaaGreat
end
section
namespace Go.Proofs.YtdmkhipimcjipaaGreat
open Go.RowKit
set_option linter.unusedVariables false
set_option linter.unusedSimpArgs false
def OwnH (base hi : Nat) (w : World) (v : Value) (fs : List F2) : Prop := ∃ fl : List (Int × Value), (w.ownsRow base 48 2 v fs.length (flat encFV fl) ∧ fl.length = fs.length ∧
  (∀ j (h : j < fl.length) (h' : j < fs.length), fl[j].1 = fs[j].f ∧ w.ownsRow base 50 3 fl[j].2 fs[j].os.length (flat O3.enc fs[j].os)) ∧ (∀ x ∈ fl, Blk v x.2) ∧ fl.Pairwise (fun x y => Blk x.2 y.2)) ∧
  (∀ q, v.ownBlock = some q → q < hi) ∧ ∀ x ∈ fl, ∀ q, x.2.ownBlock = some q → q < hi
theorem OwnF.to_h {base : Nat} {w : World} {v : Value} {fs : List F2} (h : OwnF base w v fs) : OwnH base w.heap.size w v fs := by
  obtain ⟨fl, h1, h2, h3, h4⟩ := h
  refine ⟨fl, ⟨h1, h2, h3, h4⟩, own_lt h1, fun x hx q hq => ?_⟩
  obtain ⟨j, hj, rfl⟩ := List.mem_iff_getElem.1 hx
  exact own_lt (h3 j hj (by omega)).2 q hq
theorem OwnH.to_f {base hi : Nat} {w : World} {v : Value} {fs : List F2} (h : OwnH base hi w v fs) : OwnF base w v fs := by
  obtain ⟨fl, h1, _⟩ := h
  exact ⟨fl, h1⟩
theorem own_blocks {base hi : Nat} {e : TypeId} {sz n : Nat} {w w' : World} {v : Value} {xs : List Value} (h : w.ownsRow base e sz v n xs) (hv : ∀ q, v.ownBlock = some q → q < hi) (hs : ∀ k, base ≤ k → k < hi → w'.heap[k]? = w.heap[k]?) : w'.ownsRow base e sz v n xs := by
  refine ⟨h.1, ?_⟩
  rcases h.2 with hn | ⟨b, cap, cur, rfl, hbs, hg, rest⟩
  · exact .inl hn
  · exact .inr ⟨b, cap, cur, rfl, hbs, by rw [hs b hbs (hv b rfl)]; exact hg, rest⟩
theorem OwnH.same {base hi : Nat} {w w' : World} {v : Value} {fs : List F2} (h : OwnH base hi w v fs) (hs : ∀ k, base ≤ k → k < hi → w'.heap[k]? = w.heap[k]?) : OwnH base hi w' v fs := by
  obtain ⟨fl, ⟨h1, h2, h3, h4⟩, h5, h6⟩ := h
  exact ⟨fl, ⟨own_blocks h1 h5 hs, h2, fun j a b => ⟨(h3 j a b).1, own_blocks (h3 j a b).2 (h6 _ (List.getElem_mem a)) hs⟩, h4⟩, h5, h6⟩
theorem OwnH.mono {base hi hi' : Nat} {w : World} {v : Value} {fs : List F2} (h : OwnH base hi w v fs) (hh : hi ≤ hi') : OwnH base hi' w v fs := by
  obtain ⟨fl, h1, h5, h6⟩ := h
  exact ⟨fl, h1, fun q hq => Nat.lt_of_lt_of_le (h5 q hq) hh, fun x hx q hq => Nat.lt_of_lt_of_le (h6 x hx q hq) hh⟩
theorem OwnH.row {base hi : Nat} {w : World} {v : Value} {fs : List F2} (h : OwnH base hi w v fs) : ∃ xs, w.ownsRow base 48 2 v fs.length xs ∧ ∀ q, v.ownBlock = some q → base ≤ q ∧ q < hi := by
  obtain ⟨fl, ⟨h1, _⟩, h5, _⟩ := h
  exact ⟨_, h1, fun q hq => ⟨(h1.lt q hq).1, h5 q hq⟩⟩
theorem OwnH.form {base hi : Nat} {w : World} {v : Value} {fs : List F2} (h : OwnH base hi w v fs) : ∃ a cap, v = .slice a fs.length cap := by
  obtain ⟨xs, h1, _⟩ := h.row
  exact own_form h1
theorem OwnH.nil {base hi : Nat} {w : World} {v : Value} (h : w.ownsRow base 48 2 v 0 []) (hv : ∀ q, v.ownBlock = some q → q < hi) : OwnH base hi w v [] :=
  ⟨[], ⟨h, rfl, fun j a => absurd a (by simp), fun x hx => by simp at hx, List.Pairwise.nil⟩, hv, fun x hx => by simp at hx⟩
theorem own_uniq {base : Nat} {e : TypeId} {sz n : Nat} {w : World} {v : Value} {xs ys : List Value} (h : w.ownsRow base e sz v n xs) (k : w.ownsRow base e sz v n ys) : xs = ys := by
  have hl := h.1
  have kl := k.1
  rcases h.2 with ⟨rfl, h0⟩ | ⟨g, cap, cur, hv, hb, hg, hn, hm, hc, ht⟩
  · subst h0
    rw [Nat.zero_mul] at hl kl
    rw [List.eq_nil_of_length_eq_zero hl, List.eq_nil_of_length_eq_zero kl]
  · rcases k.2 with ⟨kv, _⟩ | ⟨g', cap', cur', kv, kb, kg, kn, km, kc, kt⟩
    · rw [hv] at kv; cases kv
    · rw [hv] at kv
      cases kv
      rw [hg] at kg
      cases kg
      rw [← ht, ← kt]
theorem OwnH.snoc {base hi : Nat} {W W' : World} {v v' u : Value} {fs : List F2} {x : F2} (h : OwnH base hi W v fs) (ho : W.ownsRow base 50 3 u x.os.length (flat O3.enc x.os)) (hu : ∀ q, u.ownBlock = some q → hi ≤ q)
    (hhi : hi ≤ W.heap.size) (hg : W.grownBy W' v.ownBlock) (hr : ∀ xs, W.ownsRow base 48 2 v fs.length xs → W'.ownsRow base 48 2 v' (fs.length + 1) (xs ++ [.int .i64 x.f, u]))
    (hv' : v'.ownBlock = v.ownBlock ∨ v'.ownBlock = some (W.heap.size + 1)) : OwnH base W'.heap.size W' v' (fs ++ [x]) := by
  obtain ⟨fl, ⟨h1, h2, h3, h4, h5⟩, h6, h7⟩ := h
  have hoc := own_lt ho
  have hnew : W'.ownsRow base 48 2 v' (fs ++ [x]).length (flat encFV (fl ++ [(x.f, u)])) := by
    rw [flat_snoc, List.length_append]
    exact hr _ h1
  have hvu : Blk v u := fun p q hp hq => by have := h6 p hp; have := hu q hq; omega
  have hko : W'.ownsRow base 50 3 u x.os.length (flat O3.enc x.os) := ho.kept hg (by
    cases hq : u.ownBlock with
    | none => exact .inl rfl
    | some k => exact .inr (fun hh => hvu k k hh.symm hq rfl))
  have hke : ∀ j (h : j < fl.length) (h' : j < fs.length), W'.ownsRow base 50 3 fl[j].2 fs[j].os.length (flat O3.enc fs[j].os) := fun j a b => (h3 j a b).2.kept hg (by
    cases hq : fl[j].2.ownBlock with
    | none => exact .inl rfl
    | some k => exact .inr (fun hh => h4 _ (List.getElem_mem a) k k hh.symm hq rfl))
  have hsz := hg.size
  have hblk : ∀ y ∈ fl ++ [(x.f, u)], Blk v' y.2 ∧ ∀ q, y.2.ownBlock = some q → q < W.heap.size := by
    intro y hy
    have : Blk v y.2 ∧ ∀ q, y.2.ownBlock = some q → q < W.heap.size := by
      rcases List.mem_append.1 hy with hy | hy
      · exact ⟨h4 y hy, fun q hq => Nat.lt_of_lt_of_le (h7 y hy q hq) hhi⟩
      · rw [List.mem_singleton] at hy
        subst hy
        exact ⟨hvu, hoc⟩
    refine ⟨fun p q hp hq => ?_, this.2⟩
    rcases hv' with e | e
    · exact this.1 p q (e ▸ hp) hq
    · rw [e] at hp
      cases hp
      have := this.2 q hq
      omega
  refine ⟨fl ++ [(x.f, u)], ⟨hnew, by simp [h2], fun j a b => ?_, fun y hy => (hblk y hy).1, ?_⟩, own_lt hnew, fun y hy q hq => Nat.lt_of_lt_of_le ((hblk y hy).2 q hq) hsz⟩
  · by_cases hj : j < fl.length
    · have hj' : j < fs.length := by omega
      rw [List.getElem_append_left hj, List.getElem_append_left hj']
      exact ⟨(h3 j hj hj').1, hke j hj hj'⟩
    · have e1 : j = fl.length := by simp at a; omega
      subst e1
      rw [List.getElem_append_right (Nat.le_refl _), List.getElem_append_right (by omega)]
      simp only [h2, Nat.sub_self, List.getElem_cons_zero]
      exact ⟨trivial, hko⟩
  · rw [List.pairwise_append]
    refine ⟨h5, List.pairwise_singleton _ _, fun a ha b hb p q hp hq => ?_⟩
    rw [List.mem_singleton] at hb
    subst hb
    have := h7 a ha p hp
    have := hu q hq
    omega
theorem OwnH.grown {base hi : Nat} {w w' : World} {row : Option Nat} {v : Value} {fs : List F2} (h : OwnH base hi w v fs) (g : w.grownBy w' row) (hh : hi ≤ w.heap.size) (hr : ∀ r, row = some r → r < base ∨ hi ≤ r) : OwnH base hi w' v fs :=
  h.same (fun q h1 h2 => g.block q (by omega) (fun e => by have := hr q e.symm; omega))
theorem OwnH.below {base hi B : Nat} {w w' : World} {v : Value} {fs : List F2} (h : OwnH base hi w v fs) (b : Below B w w') (hh : hi ≤ B) : OwnH base hi w' v fs :=
  h.same (fun q h1 h2 => b.block q (by omega))
theorem Bx.put {w : World} {g : Nat} {cur : Array Value} (h : Bx w g cur) (i : Nat) (hi : i < cur.size) (u : Value) : Bx (w.setCell ⟨g, i, none⟩ u) g (cur.setIfInBounds i u) := by
  refine ⟨by rw [World.size_setCell]; exact h.1, fun j => ?_, fun j => by rw [World.frozen?_setCell]; exact h.2.2 j⟩
  by_cases hj : i = j
  · subst hj
    rw [World.cell?_setCell_same _ _ _ ((h.2.1 i).trans (Array.getElem?_eq_getElem hi))]
    simp [hi]
  · rw [World.cell?_setCell_other _ _ _ _ (by intro he; injection he; exact hj (by assumption)), h.2.1 j, Array.getElem?_setIfInBounds_ne hj]
theorem alloc_two {w x : World} {A B : Array Value} {e f : TypeId} (h : (w.alloc (.cells A e)).alloc (.cells B f) = x) :
    Below w.heap.size w x ∧ Bx x w.heap.size A ∧ Bx x (w.heap.size + 1) B ∧ x.heap.size = w.heap.size + 2 := by
  obtain ⟨b1, k1⟩ := Bx.alloc (w := w) (cur := A) (e := e) rfl
  obtain ⟨b2, k2⟩ := Bx.alloc (w := w.alloc (.cells A e)) (cur := B) (e := f) rfl
  have s1 : (w.alloc (.cells A e)).heap.size = w.heap.size + 1 := by simp
  rw [s1] at k2 b2
  subst h
  exact ⟨b1.trans (b2.mono (by omega)), k1.below b2 (by omega), k2, by simp⟩
end Go.Proofs.YtdmkhipimcjipaaGreat
end
section
namespace Go.Proofs.YtdmkhipimcjipaaGreat
open Go.RowKit
set_option linter.unusedVariables false
set_option linter.unusedSimpArgs false
theorem flatF_spl {fl : List (Int × Value)} {k : Nat} (hk : k < fl.length) : flat encFV fl = (fl.take k).flatMap encFV ++ (encFV fl[k] ++ (fl.drop (k + 1)).flatMap encFV) ∧ ((fl.take k).flatMap encFV).length = k * 2 := by
  constructor
  · have : (fl.set k fl[k]).flatMap encFV = (fl.take k).flatMap encFV ++ (encFV fl[k] ++ (fl.drop (k + 1)).flatMap encFV) := by
      rw [List.set_eq_take_append_cons_drop, if_pos hk, List.flatMap_append, List.flatMap_cons]
    rw [List.set_getElem_self] at this
    exact this
  · have := flat_len encFV_len (fl.take k)
    unfold flat at this
    rw [this, List.length_take, Nat.min_eq_left (by omega)]
theorem flatF_sat {fl : List (Int × Value)} {k : Nat} (hk : k < fl.length) (x : Int × Value) : flat encFV (fl.set k x) = (fl.take k).flatMap encFV ++ (encFV x ++ (fl.drop (k + 1)).flatMap encFV) := by
  unfold flat
  rw [List.set_eq_take_append_cons_drop, if_pos hk, List.flatMap_append, List.flatMap_cons]
theorem flatF_pt0 {fl : List (Int × Value)} {k : Nat} (hk : k < fl.length) (a : Int) : (flat encFV fl).set (k * 2) (.int .i64 a) = flat encFV (fl.set k (a, fl[k].2)) := by
  obtain ⟨h1, hl⟩ := flatF_spl hk
  rw [h1, List.set_append_right _ _ (by omega), hl, Nat.sub_self, flatF_sat hk]
  rfl
theorem flatF_pt1 {fl : List (Int × Value)} {k : Nat} (hk : k < fl.length) (u : Value) : (flat encFV fl).set (k * 2 + 1) u = flat encFV (fl.set k (fl[k].1, u)) := by
  obtain ⟨h1, hl⟩ := flatF_spl hk
  rw [h1, List.set_append_right _ _ (by omega), hl, show k * 2 + 1 - k * 2 = 1 from by omega, flatF_sat hk]
  rfl
structure Swap (base hi : Nat) (w : World) (v : Value) (fs : List F2) (k : Nat) (f : F2) (g cap : Nat) (u : Value) : Prop where
  hv : v = .slice (some ⟨g, 0, none⟩) fs.length cap
  hg : base ≤ g ∧ g < hi
  c0 : w.cell? ⟨g, k * 2, none⟩ = some (.int .i64 f.f)
  c1 : w.cell? ⟨g, k * 2 + 1, none⟩ = some u
  f0 : w.frozen? ⟨g, k * 2, none⟩ = false
  f1 : w.frozen? ⟨g, k * 2 + 1, none⟩ = false
  row : w.ownsRow base 50 3 u f.os.length (flat O3.enc f.os)
  blk : ∀ q, u.ownBlock = some q → base ≤ q ∧ q < hi ∧ q ≠ g
  free : ∀ a, OwnH base hi (w.setCell ⟨g, k * 2, none⟩ (.int .i64 a)) v (fs.set k ⟨a, f.os⟩)
  list : ∀ u' os', u'.ownBlock = u.ownBlock → w.ownsRow base 50 3 u' os'.length (flat O3.enc os') → OwnH base hi (w.setCell ⟨g, k * 2 + 1, none⟩ u') v (fs.set k ⟨f.f, os'⟩)
  op : ∀ os' W', w.grownBy W' u.ownBlock → W'.ownsRow base 50 3 u os'.length (flat O3.enc os') → OwnH base hi W' v (fs.set k ⟨f.f, os'⟩)
theorem own_keepAt {base : Nat} {e : TypeId} {sz n : Nat} {w w' : World} {v : Value} {xs : List Value} (h : w.ownsRow base e sz v n xs) (hs : ∀ q, v.ownBlock = some q → w'.heap[q]? = w.heap[q]?) : w'.ownsRow base e sz v n xs := by
  refine ⟨h.1, ?_⟩
  rcases h.2 with hn | ⟨b, cap, cur, rfl, hbs, hg, rest⟩
  · exact .inl hn
  · exact .inr ⟨b, cap, cur, rfl, hbs, by rw [hs b rfl]; exact hg, rest⟩
theorem own_core {base hi : Nat} {w W' : World} {g : Nat} {v : Value} {fs : List F2} {fl : List (Int × Value)} {k : Nat} {x' : F2} {u' : Value} (hv : v.ownBlock = some g)
    (h2 : fl.length = fs.length) (h3 : ∀ j (h : j < fl.length) (h' : j < fs.length), fl[j].1 = fs[j].f ∧ w.ownsRow base 50 3 fl[j].2 fs[j].os.length (flat O3.enc fs[j].os))
    (h4 : ∀ x ∈ fl, Blk v x.2) (h5 : fl.Pairwise (fun x y => Blk x.2 y.2)) (h6 : ∀ q, v.ownBlock = some q → q < hi) (h7 : ∀ x ∈ fl, ∀ q, x.2.ownBlock = some q → q < hi) (hk : k < fs.length) (hkf : k < fl.length)
    (hu : u'.ownBlock = fl[k].2.ownBlock) (hb : ∀ q, q < w.heap.size → q ≠ g → some q ≠ fl[k].2.ownBlock → W'.heap[q]? = w.heap[q]?)
    (hrow : W'.ownsRow base 48 2 v fs.length (flat encFV (fl.set k (x'.f, u')))) (ho : W'.ownsRow base 50 3 u' x'.os.length (flat O3.enc x'.os)) :
    OwnH base hi W' v (fs.set k x') := by
  have hoth : ∀ j (h : j < fl.length) (h' : j < fs.length), j ≠ k → W'.ownsRow base 50 3 fl[j].2 fs[j].os.length (flat O3.enc fs[j].os) := by
    intro j a b hj
    have hl := own_lt (h3 j a b).2
    refine own_keepAt (h3 j a b).2 (fun q hq => hb q (hl q hq) (fun e => h4 _ (List.getElem_mem a) g q hv hq e.symm) (fun e => ?_))
    rcases Nat.lt_or_gt_of_ne hj with hjk | hjk
    · exact (List.pairwise_iff_getElem.1 h5 j k a hkf hjk) q q hq e.symm rfl
    · exact (List.pairwise_iff_getElem.1 h5 k j hkf a hjk) q q e.symm hq rfl
  have hmem : ∀ x ∈ fl.set k (x'.f, u'), ∃ y ∈ fl, x.2.ownBlock = y.2.ownBlock := by
    intro x hx
    rcases List.mem_or_eq_of_mem_set hx with hx | rfl
    · exact ⟨x, hx, rfl⟩
    · exact ⟨_, List.getElem_mem hkf, hu⟩
  refine ⟨fl.set k (x'.f, u'), ⟨by rw [List.length_set]; exact hrow, by simp [h2], fun j b c => ?_, fun x hx => ?_, ?_⟩, h6, fun x hx q hq => ?_⟩
  · simp only [List.length_set] at b c
    by_cases hj : j = k
    · subst hj
      simp only [List.getElem_set_self]
      exact ⟨trivial, ho⟩
    · simp only [List.getElem_set_ne (fun h => hj h.symm)]
      exact ⟨(h3 j b c).1, hoth j b c hj⟩
  · obtain ⟨y, hy, e⟩ := hmem x hx
    intro p q hp hq
    exact h4 y hy p q hp (e ▸ hq)
  · rw [List.pairwise_iff_getElem]
    intro i j hi hj hij
    simp only [List.length_set] at hi hj
    have e : ∀ i (hi : i < fl.length), ((fl.set k (x'.f, u'))[i]'(by simp; omega)).2.ownBlock = fl[i].2.ownBlock := by
      intro i hi
      rw [List.getElem_set]
      split
      · rename_i h; subst h; exact hu
      · rfl
    intro p q hp hq
    rw [e i hi] at hp
    rw [e j hj] at hq
    exact List.pairwise_iff_getElem.1 h5 i j hi hj hij p q hp hq
  · obtain ⟨y, hy, e⟩ := hmem x hx
    exact h7 y hy q (e ▸ hq)
theorem OwnH.swap {base hi : Nat} {w : World} {v : Value} {fs : List F2} (h : OwnH base hi w v fs) {k : Nat} (hk : k < fs.length) : ∃ g cap u, Swap base hi w v fs k fs[k] g cap u := by
  obtain ⟨fl, ⟨h1, h2, h3, h4, h5⟩, h6, h7⟩ := h
  have hkf : k < fl.length := by omega
  have hv : ∃ g cap, v = .slice (some ⟨g, 0, none⟩) fs.length cap := by
    rcases h1.2 with ⟨_, h0⟩ | ⟨g, cap, cur, hv, _⟩
    · omega
    · exact ⟨g, cap, hv⟩
  obtain ⟨g, cap, rfl⟩ := hv
  have hgb := (h1.lt g rfl).1
  have hgh := h6 g rfl
  have hlen : (flat encFV fl).length = fl.length * 2 := flat_len encFV_len fl
  have e0 := own_cellN h1 (k * 2) (by omega)
  have e1 := own_cellN h1 (k * 2 + 1) (by omega)
  rw [flat_at encFV_len fl k _ (List.getElem?_eq_getElem hkf) 1 (by decide)] at e1
  have e0' := flat_at encFV_len fl k _ (List.getElem?_eq_getElem hkf) 0 (by decide)
  rw [Nat.add_zero] at e0'
  rw [e0'] at e0
  have hff := (h3 k hkf hk).1
  have hu := (h3 k hkf hk).2
  have hne : fl[k].2.ownBlock ≠ some g := fun hq => h4 _ (List.getElem_mem hkf) g g rfl hq rfl
  have hsame : ∀ (a : Nat) (x : Value) q, q ≠ g → (w.setCell ⟨g, a, none⟩ x).heap[q]? = w.heap[q]? := fun a x q hq => by
    have gs := grownBy.setCell w g a x
    by_cases hs : q < w.heap.size
    · exact gs.block q hs (fun e => hq (Option.some.inj e))
    · have hz : (w.setCell ⟨g, a, none⟩ x).heap.size = w.heap.size := World.size_setCell _ _ _
      rw [Array.getElem?_eq_none (by omega), Array.getElem?_eq_none (by omega)]
  refine ⟨g, cap, fl[k].2, rfl, ⟨hgb, hgh⟩, by rw [e0, ← hff]; rfl, e1, own_frozen h1 _, own_frozen h1 _, hu, fun q hq => ⟨(hu.lt q hq).1, h7 _ (List.getElem_mem hkf) q hq, fun e => hne (e ▸ hq)⟩, fun a => ?_, fun u' os' hu' ho => ?_, fun os' W' hg ho => ?_⟩
  · refine own_core (w := w) rfl h2 h3 h4 h5 h6 h7 hk hkf (u' := fl[k].2) rfl (fun q _ h _ => hsame _ _ q h) ?_ (own_keepAt hu (fun q hq => hsame _ _ q (fun e => hne (e ▸ hq))))
    rw [← flatF_pt0 hkf]
    exact own_setN h1 (k * 2) (by omega) _
  · refine own_core (w := w) (x' := ⟨fs[k].f, os'⟩) rfl h2 h3 h4 h5 h6 h7 hk hkf (u' := u') hu' (fun q _ h _ => hsame _ _ q h) ?_ (own_keepAt ho (fun q hq => hsame _ _ q (fun e => hne (by rw [← hu', hq, e]))))
    dsimp only
    rw [← hff, ← flatF_pt1 hkf]
    exact own_setN h1 (k * 2 + 1) (by omega) _
  · refine own_core (w := w) (x' := ⟨fs[k].f, os'⟩) rfl h2 h3 h4 h5 h6 h7 hk hkf (u' := fl[k].2) rfl (fun q hq _ hn => hg.block q hq hn) ?_ ho
    dsimp only
    rw [← hff, show (fl[k].1, fl[k].2) = fl[k] from rfl, List.set_getElem_self]
    exact h1.kept hg (.inr (fun hh => hne hh.symm))
theorem own_short {base : Nat} {e : TypeId} {sz n m : Nat} {w : World} {a : Option Addr} {c : Nat} {xs : List Value} (h : w.ownsRow base e sz (.slice a n c) n xs) (hm : m ≤ n) (hn : 0 < n) : w.ownsRow base e sz (.slice a m c) m (xs.take (m * sz)) := by
  have h1 := h.1
  refine ⟨by rw [List.length_take, h1]; exact Nat.min_eq_left (Nat.mul_le_mul_right _ hm), ?_⟩
  rcases h.2 with ⟨_, h0⟩ | ⟨b, cap, cur, hv, hbs, hg, hn', hm', hc, ht⟩
  · omega
  · cases hv
    exact .inr ⟨b, c, cur, rfl, hbs, hg, by omega, hm', hc, by rw [← ht, List.take_take, Nat.min_eq_left (Nat.mul_le_mul_right _ hm)]⟩
theorem OwnH.short {base hi : Nat} {w : World} {a : Option Addr} {c : Nat} {fs : List F2} {n m : Nat} (h : OwnH base hi w (.slice a n c) fs) (hf : fs.length = n) (hm : m ≤ n) (hn : 0 < n) : OwnH base hi w (.slice a m c) (fs.take m) := by
  obtain ⟨fl, ⟨h1, h2, h3, h4, h5⟩, h6, h7⟩ := h
  have hl : (fs.take m).length = m := by rw [List.length_take]; omega
  have hb : (Value.slice a m c).ownBlock = (Value.slice a n c).ownBlock := by rcases a with _ | ⟨b, o, f⟩ <;> rfl
  refine ⟨fl.take m, ⟨?_, by simp [h2], fun j p q => ?_, fun x hx => ?_, h5.sublist (List.take_sublist _ _)⟩, fun q hq => h6 q (hb ▸ hq), fun x hx => h7 x (List.mem_of_mem_take hx)⟩
  · rw [hl]
    rw [hf] at h1
    have := own_short h1 hm hn
    have e : (flat encFV fl).take (m * 2) = flat encFV (fl.take m) := by
      have e1 : flat encFV fl = flat encFV (fl.take m) ++ flat encFV (fl.drop m) := by
        unfold flat
        rw [← List.flatMap_append, List.take_append_drop]
      have e2 : (flat encFV (fl.take m)).length = m * 2 := by rw [flat_len encFV_len, List.length_take, Nat.min_eq_left (by omega)]
      rw [e1, List.take_append_of_le_length (by omega), List.take_of_length_le (by omega)]
    rw [e] at this
    exact this
  · rw [List.length_take] at p q
    have := h3 j (by omega) (by omega)
    simp only [List.getElem_take]
    exact this
  · intro p q hp hq
    exact h4 x (List.mem_of_mem_take hx) p q (hb ▸ hp) hq
end Go.Proofs.YtdmkhipimcjipaaGreat
end
section
namespace Go.Proofs.YtdmkhipimcjipaaGreat
open Go.RowKit
set_option linter.unusedVariables false
theorem RdE.flat_cell {α : Type} {enc : α → List Value} {size : Nat} {w : World} {b off : Nat} {xs : List α} (hs : ∀ x, (enc x).length = size)
    (hc : ∀ (j : Nat) (x : α), xs[j]? = some x → ∀ t, t < size → w.cell? ⟨b, off + j * size + t, none⟩ = (enc x)[t]?) (h0 : 0 < size) :
    ∀ (j : Nat) (u : Value), (flat enc xs)[j]? = some u → w.cell? ((⟨b, off, none⟩ : Addr).add j) = some u := by
  intro j u hj
  have hadd : (⟨b, off, none⟩ : Addr).add j = ⟨b, off + j, none⟩ := by unfold Addr.add; split <;> simp_all
  have hjl : j < xs.length * size := by
    rw [← flat_len hs xs]
    exact (List.getElem?_eq_some_iff.1 hj).1
  have hq : j / size < xs.length := (Nat.div_lt_iff_lt_mul h0).2 hjl
  have ht : j % size < size := Nat.mod_lt _ h0
  have hjj : j / size * size + j % size = j := by rw [Nat.mul_comm]; exact Nat.div_add_mod j size
  have e1 := hc (j / size) xs[j / size] (List.getElem?_eq_getElem hq) (j % size) ht
  have e2 := flat_at hs xs (j / size) xs[j / size] (List.getElem?_eq_getElem hq) (j % size) ht
  rw [hjj, hj] at e2
  rw [hadd, ← hjj, ← Nat.add_assoc, e1, ← e2]
theorem step_copyE {P : Program} {w : World} {α : Type} {enc : α → List Value} {o : Oper} {a : Act} {K : Act → World → Prop} {Q : Exit → Act → World → Prop} (s x : Operand) (t : TypeId)
    (ho : o.op = .call { callee := .builtin .append, args := #[s, x], argTypes := #[t, t] })
    (base : Nat) (e : TypeId) (i : TypeInfo) (z : Value) (size bytes : Nat) (ht : P.underlying t = some (.slice e)) (hi : P.info? e = some i) (hz : i.zero = some z)
    (hsize : i.size = size) (hby : i.bytes = bytes) (hzs : z.cells.size = size) (hsz : 0 < size) (hs3 : ∀ x, (enc x).length = size) (hone : ∀ x, ∀ u ∈ enc x, u.oneCell' = true)
    (g : Nat) (hs : a.eval s = .slice (some ⟨g, 0, none⟩) 0 0) (hg : w.heap[g]? = some (.cells #[] e (0, 0))) (hbg : base ≤ g)
    {B : Nat} (v : Value) (xs : List α) (hx : a.eval x = v) (hr : RdE enc size B w v xs)
    (h63 : xs.length ≤ 4294967296) (hbytes : bytes ≤ 1000)
    (h : ∀ v' w', w'.ownsRow base e size v' xs.length (flat enc xs) → w.grownBy w' (some g) → (v'.ownBlock = some g ∨ v'.ownBlock = some w.heap.size) → K (a.put o.dst v') w') : o.wp P a w K Q := by
  have hlt : g < w.heap.size := (Array.getElem?_eq_some_iff.1 hg).1
  have hown : w.ownsRow base e size (.slice (some ⟨g, 0, none⟩) 0 0) 0 [] := ⟨by simp, .inr ⟨g, 0, #[], rfl, hbg, hg, Nat.le_refl _, Nat.zero_le _, by simp, by simp⟩⟩
  have fin : ∃ v' w', (Builtin.append_ #[t, t] o.type #[.slice (some ⟨g, 0, none⟩) 0 0, v]).run P w = .ok v' w' ∧ w'.ownsRow base e size v' xs.length (flat enc xs) ∧ w.grownBy w' (some g) ∧ (v'.ownBlock = some g ∨ v'.ownBlock = some w.heap.size) := by
    rcases hr with ⟨rfl, A, cap, rfl⟩ | ⟨b, off, cap, rfl, _, _, hl, hc⟩
    · cases A with
      | none =>
        refine ⟨.slice (some ⟨g, 0, none⟩) 0 0, w, ?_, by simpa [flat] using hown, grownBy.refl w _, .inl rfl⟩
        simp [Builtin.append_, run_underlying ht, sizeOf, typeInfo, hi, Builtin.lenOf, Builtin.firstCells, storeCells]
      | some ad =>
        obtain ⟨v', w', h1, h2, h3, _, h5⟩ := run_append_own_at (P := P) w base t o.type e i z size bytes ht hi hz hsize hby hzs hsz _ 0 [] hown ad 0 cap [] (by simp) (by intro j u hj; simp at hj) (by intro u hu; cases hu) (by unfold maxLen; omega) (by omega) (by omega)
        exact ⟨v', w', h1, by simpa [flat] using h2, h3, h5⟩
    · obtain ⟨v', w', h1, h2, h3, _, h5⟩ := run_append_own_at (P := P) w base t o.type e i z size bytes ht hi hz hsize hby hzs hsz _ 0 [] hown ⟨b, off, none⟩ xs.length cap (flat enc xs) (flat_len hs3 xs) (RdE.flat_cell hs3 hc hsz) (by
        intro u hu
        unfold flat at hu
        obtain ⟨y, _, hy⟩ := List.mem_flatMap.1 hu
        exact hone y u hy) (by unfold maxLen; omega) (by
        have : (0 + xs.length) * bytes ≤ 4294967296 * 1000 := Nat.mul_le_mul (by omega) hbytes
        omega) (by omega)
      exact ⟨v', w', h1, by simpa using h2, h3, h5⟩
  obtain ⟨v', w', hrun, h2, h3, h4⟩ := fin
  unfold Oper.wp execOp
  simp only [ho, resolve, invoke, builtin, Sem.run_bind, Sem.run_pure, Result.andThen_ok, List.map_toArray, List.map_cons, List.map_nil, hs, hx, hrun]
  exact h v' w' h2 h3 h4
end Go.Proofs.YtdmkhipimcjipaaGreat
end
section
namespace Go.Proofs.YtdmkhipimcjipaaGreat
open Go
set_option linter.unusedVariables false
theorem wpAnyH_up {P : Program} {ops : Array Oper} {Q : Exit → Act → World → Prop} {md : Region.Mode} {S S' : World → Prop} (hS : ∀ w, S' w → S w) :
    ∀ (fuel : Nat) (listed : Array Bool) (a : Act) (w : World), wpAnyH P md ops Q S' fuel listed a w → wpAnyH P md ops Q S fuel listed a w
  | 0, _, _, _, h => h
  | fuel + 1, _, _, _, h => ⟨h.1, fun i hi => wpOp_mono (fun _ _ h' => ⟨hS _ h'.1, wpAnyH_up hS fuel _ _ _ h'.2⟩) (h.2 i hi)⟩
section
variable {P : Program} {ops : Array Oper} {Q : Exit → Act → World → Prop} {md : Region.Mode} {S : World → Prop}
theorem tkH {i : Nat} {oi : Oper} {v : Value} {fuel : Nat} {listed : Array Bool} {a a' : Act} {w : World} (h : wpAnyH P md ops Q S fuel (listed.setIfInBounds i true) a' w) (hi : ops[i]? = some oi := by (simp only [List.getElem?_toArray, List.getElem?_cons_succ, List.getElem?_cons_zero]; rfl))
    (hs : Region.noSelect ops = true := by kernel_rfl) (hf : Region.free md ops listed i = true := by kernel_rfl) (hr : (Region.ready md ops listed).contains i = true := by kernel_rfl)
    (hQ : ∀ c a w, Q (.panic c) (a.put oi.dst v) w → Q (.panic c) a w := by exact fun _ _ _ h => h) (hy : YieldsIf P ops S oi v a := by exact Or.inl ⟨by rfl, by (intro w hSw; (try dsimp only at hSw); go_simp; (try with_reducible rfl))⟩) (hS : S w := by assumption)
    (ha : a.put oi.dst v = a' := by first | (simp only [Act.put, List.setIfInBounds_toArray, List.set_cons_zero, List.set_cons_succ]; done) | (simp only [Act.put, List.setIfInBounds_toArray, List.set_cons_zero, List.set_cons_succ]; rfl) | rfl) : wpAnyH P md ops Q S (fuel + 1) listed a w := by
  subst ha
  exact wpAnyH_take hi hs hf hr hQ hy hS h
theorem skH {i : Nat} {oi : Oper} {fuel : Nat} {listed : Array Bool} {a a' : Act} {w : World} (h : wpAnyH P md ops Q S fuel (listed.setIfInBounds i true) a' w) (hi : ops[i]? = some oi := by (simp only [List.getElem?_toArray, List.getElem?_cons_succ, List.getElem?_cons_zero]; rfl))
    (hs : Region.noSelect ops = true := by kernel_rfl) (hf : Region.free md ops listed i = true := by kernel_rfl) (hr : (Region.ready md ops listed).contains i = true := by kernel_rfl)
    (hQ : ∀ c a w, Q (.panic c) (a.put oi.dst undef) w → Q (.panic c) a w := by exact fun _ _ _ h => h) (hy : YieldsIf P ops S oi undef a := by exact Or.inr ⟨by rfl, rfl⟩) (hS : S w := by assumption)
    (ha : a.put oi.dst undef = a' := by first | (simp only [Act.put, List.setIfInBounds_toArray, List.set_cons_zero, List.set_cons_succ]; done) | (simp only [Act.put, List.setIfInBounds_toArray, List.set_cons_zero, List.set_cons_succ]; rfl) | rfl) : wpAnyH P md ops Q S (fuel + 1) listed a w := by
  subst ha
  exact wpAnyH_take hi hs hf hr hQ hy hS h
theorem bkH {fuel : Nat} {listed : Array Bool} {a a' : Act} {w : World} {K : Act → World → Prop} (hK : Shut (∀ a w, S w → (S w → wpAnyH P md ops Q S fuel listed a w) → K a w)) (hS : S w) (h : S w → wpAnyH P md ops Q S fuel listed a' w)
    (ha : a = a' := by first | (simp only [Act.put, List.setIfInBounds_toArray, List.set_cons_zero, List.set_cons_succ]; done) | (simp only [Act.put, List.setIfInBounds_toArray, List.set_cons_zero, List.set_cons_succ]; rfl) | rfl) : K a w := by
  subst ha
  exact hK.out _ _ hS h
theorem rdH {i : Nat} {o : Oper} {fuel : Nat} {listed : Array Bool} {a : Act} {w : World} (h : ∀ K' : Act → World → Prop, Shut (∀ a w, S w → (S w → wpAnyH P md ops Q S fuel (listed.setIfInBounds i true) a w) → K' a w) → if Region.wanted o (yielded ops a.tmps) = true then Oper.wp P o a w K' Q else K' (a.put o.dst undef) w)
    (hr : Region.ready md ops listed = [i] := by kernel_rfl) (ho : ops[i]? = some o := by (simp only [List.getElem?_toArray, List.getElem?_cons_succ, List.getElem?_cons_zero]; rfl)) : wpAnyH P md ops Q S (fuel + 1) listed a w :=
  wpAnyH_ready hr (by simp) (AllReadyH.cons ho h AllReadyH.nil)
end
end Go.Proofs.YtdmkhipimcjipaaGreat
end
