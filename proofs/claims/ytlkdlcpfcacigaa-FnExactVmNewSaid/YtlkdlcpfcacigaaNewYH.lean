/- What region 4 of the reference's VmNew holds. -/
import Derived.Test.YtlkdlcpfcacigaaHeapNew
import Derived.Test.YtlkdlcpfcacigaaMgSpD
import Derived.Test.YtlkdlcpfcacigaaNewY
import Derived.Test.YtlkdlcpfcacigaaNewP
import Derived.Test.YtlkdlcpfcacigaaNewI
import Derived.Test.YtlkdlcpfcacigaaCpS
import Derived.Test.YtlkdlcpfcacigaaVmOkS
import Derived.Test.YtlkdlcpfcacigaaVmT
namespace Go.Proofs.Ytlkdlcpfcacigaa
open Go.RowKit
set_option linter.unusedVariables false
set_option linter.unusedSimpArgs false

theorem tot_some (fs : List F2) (h : ∀ x ∈ fs, x.os.length ≤ 3000) : tot fs ≤ 3000 * fs.length := by
  unfold tot
  induction fs with
  | nil => simp
  | cons x l ih =>
    have a := h x (by simp)
    have b := ih (fun y hy => h y (List.mem_cons_of_mem _ hy))
    simp only [List.map_cons, List.sum_cons, List.length_cons]
    omega
theorem ver_small {fs : List F2} (hv : verB fs = true) : fs.length ≤ 60 ∧ tot fs ≤ 180000 := by
  have hf := verB_funs hv
  obtain ⟨⟨p1, p2⟩, p3⟩ := fn_parts hf
  have := tot_some fs (fun x hx => by
    obtain ⟨i, hi, rfl⟩ := List.getElem_of_mem hx
    have h3 := (p3 i hi).1.2.2
    rw [fs_getD hi] at h3
    omega)
  omega
/-- all that W has, but the block om, is so in W'. -/
structure Ag (om : Option Nat) (W W' : World) : Prop where
  size : W.heap.size ≤ W'.heap.size
  block : ∀ q, q < W.heap.size → some q ≠ om → W'.heap[q]? = W.heap[q]?
def AllW (om : Option Nat) (W : World) (P : World → Prop) : Prop := ∀ W', Ag om W W' → P W'
theorem Ag.refl (om : Option Nat) (W : World) : Ag om W W := ⟨Nat.le_refl _, fun _ _ _ => rfl⟩
theorem AllW.here {om : Option Nat} {W : World} {P : World → Prop} (h : AllW om W P) : P W := h W (Ag.refl _ _)
theorem AllW.below {om : Option Nat} {W W1 : World} {P : World → Prop} (h : AllW om W P) (hb : Below W.heap.size W W1) : AllW om W1 P := fun W' a =>
  h W' ⟨Nat.le_trans hb.size a.size, fun q hq hn => (a.block q (Nat.lt_of_lt_of_le hq hb.size) hn).trans (hb.block q hq)⟩
theorem AllW.box {W W1 : World} {P : World → Prop} (h : AllW none W P) (hb : Below W.heap.size W W1) : AllW (some W.heap.size) W1 P := fun W' a =>
  h W' ⟨Nat.le_trans hb.size a.size, fun q hq hn => (a.block q (Nat.lt_of_lt_of_le hq hb.size) (fun e => by have := Option.some.inj e; omega)).trans (hb.block q hq)⟩
theorem Ag.row {om : Option Nat} {B : Nat} {W W' : World} (a : Ag om W W') (hg : ∀ g, om = some g → g < B) : ∀ k, B ≤ k → k < W.heap.size → W'.heap[k]? = W.heap[k]? := fun k h1 h2 => a.block k h2 (fun e => by have := hg k e.symm; omega)
theorem Ag.bx {om : Option Nat} {W W' : World} {g : Nat} {cur : Array Value} (a : Ag om W W') (h : Bx W g cur) (hn : some g ≠ om) : Bx W' g cur :=
  ⟨Nat.lt_of_lt_of_le h.1 a.size, fun j => (World.cell?_of_block (a.block g h.1 hn)).trans (h.2.1 j), fun j => (World.frozen?_of_block (a.block g h.1 hn)).trans (h.2.2 j)⟩
theorem Ag.own {W W' : World} {base : Nat} {e : TypeId} {sz n : Nat} {v : Value} {xs : List Value} (a : Ag none W W') (h : W.ownsRow base e sz v n xs) : W'.ownsRow base e sz v n xs := own_blocks h (own_lt h) (fun k _ h2 => a.block k h2 (by simp))
abbrev zVm : Array Value := #[.slice none 0 0, .slice none 0 0, .int .i64 0, .int .i64 0, .int .i64 0, .slice none 0 0, .slice none 0 0, .slice none 0 0, .int .i64 0, .bool false]
/-- what region 4 holds, as far as it is made. -/
structure Ny (w : World) (fs : List F2) (half : Nat) (G : Nat) (hv : Value) (of os oc : Option Value) (om : Option Nat) (W : World) : Prop where
  lb : Below w.heap.size w W
  hG : w.heap.size < G ∧ G < W.heap.size
  k6 : AllW om W (fun W => Bx W w.heap.size zVm)
  k8 : AllW om W (fun W => Bx W G #[hv, .int .i64 half, .int .i64 0, .int .i64 0])
  z : AllW om W (fun W => W.ownsRow (w.heap.size + 1) 3 1 hv (2 * half) ((List.replicate (2 * half) 0).map (Value.int .i64)))
  f : ∀ v, of = some v → AllW om W (fun W => OwnF (w.heap.size + 1) W v fs)
  s : ∀ v, os = some v → AllW om W (fun W => W.ownsRow (w.heap.size + 1) 3 1 v 2 ([1, 1].map (Value.int .i64)))
  c : ∀ v, oc = some v → AllW om W (fun W => W.ownsRow (w.heap.size + 1) 48 3 v 1 (flat O3.enc [⟨0, 0, 1⟩]))
  m : ∀ g, om = some g → Bx W g zVm ∧ w.heap.size < g
/-- the end of region 4. -/
structure Nz (w : World) (fs : List F2) (half : Nat) (each : Bool) (G : Nat) (hv fv sv cv : Value) (g : Nat) (W : World) : Prop where
  lb : Below w.heap.size w W
  k6 : Bx W w.heap.size zVm
  m : Bx W g #[fv, hv, .int .i64 half, .int .i64 0, .int .i64 0, sv, cv, .slice none 0 0, .int .i64 0, .bool each]
  r : NewR0 (w.heap.size + 1) W fv hv sv cv fs half
  g : w.heap.size < g
  k8 : Bx W G #[hv, .int .i64 half, .int .i64 0, .int .i64 0]
section
variable {w W W' : World} {fs : List F2} {half G : Nat} {hv : Value} {of os oc : Option Value} {om : Option Nat}
theorem Ny.below (h : Ny w fs half G hv of os oc om W) (hb : Below W.heap.size W W') : Ny w fs half G hv of os oc om W' :=
  ⟨h.lb.trans (hb.mono h.lb.size), ⟨h.hG.1, Nat.lt_of_lt_of_le h.hG.2 hb.size⟩, h.k6.below hb, h.k8.below hb, h.z.below hb, fun v e => (h.f v e).below hb, fun v e => (h.s v e).below hb, fun v e => (h.c v e).below hb, fun g e => ⟨(h.m g e).1.below hb (h.m g e).1.1, (h.m g e).2⟩⟩
theorem Ny.size (h : Ny w fs half G hv of os oc om W) : w.heap.size + 1 ≤ W.heap.size := by have := h.hG; omega
theorem Ny.fun_ {v : Value} (h : Ny w fs half G hv none os oc om W) (ho : OwnF W.heap.size W' v fs) (hb : Below W.heap.size W W') : Ny w fs half G hv (some v) os oc om W' :=
  have h' := h.below hb
  ⟨h'.lb, h'.hG, h'.k6, h'.k8, h'.z, fun u e => by
    obtain rfl := Option.some.inj e
    exact fun W2 a => (ho.to_h.same (a.row (fun g e => (h.m g e).1.1))).to_f.base h.size, h'.s, h'.c, h'.m⟩
theorem Ny.stk (h : Ny w fs half G hv of none oc om W) (hy : W.alloc (.cells #[.int .i64 1, .int .i64 1] 3) = W') : Ny w fs half G hv of (some (.slice (some ⟨W.heap.size, 0, none⟩) 2 2)) oc om W' := by
  obtain ⟨hb, _⟩ := Bx.alloc hy
  have h' := h.below hb
  have hs := h.size
  have ho : W'.ownsRow W.heap.size 3 1 (.slice (some ⟨W.heap.size, 0, none⟩) 2 2) 2 ([1, 1].map (Value.int .i64)) := by rw [← hy]; exact own_madeN W #[.int .i64 1, .int .i64 1] 2 (Nat.le_refl _) (by unfold maxLen; omega) (by simp)
  refine ⟨h'.lb, h'.hG, h'.k6, h'.k8, h'.z, h'.f, fun u e => ?_, h'.c, h'.m⟩
  obtain rfl := Option.some.inj e
  exact fun W2 a => own_base (own_blocks ho (own_lt ho) (a.row (fun g e => (h.m g e).1.1))) hs
theorem Ny.cal (h : Ny w fs half G hv of os none om W) (hy : W.alloc (.cells #[.int .i64 0, .int .i64 0, .int .i64 1] 48) = W') : Ny w fs half G hv of os (some (.slice (some ⟨W.heap.size, 0, none⟩) 1 1)) om W' := by
  obtain ⟨hb, _⟩ := Bx.alloc hy
  have h' := h.below hb
  have hs := h.size
  have ho : W'.ownsRow W.heap.size 48 3 (.slice (some ⟨W.heap.size, 0, none⟩) 1 1) 1 (flat O3.enc [⟨0, 0, 1⟩]) := by rw [← hy]; exact own_madeN W #[.int .i64 0, .int .i64 0, .int .i64 1] 1 (Nat.le_refl _) (by unfold maxLen; omega) (by simp)
  refine ⟨h'.lb, h'.hG, h'.k6, h'.k8, h'.z, h'.f, h'.s, fun u e => ?_, h'.m⟩
  obtain rfl := Option.some.inj e
  exact fun W2 a => own_base (own_blocks ho (own_lt ho) (a.row (fun g e => (h.m g e).1.1))) hs
theorem Ny.box {t : TypeId} (h : Ny w fs half G hv of os oc none W) (hy : W.alloc (.cells zVm t) = W') : Ny w fs half G hv of os oc (some W.heap.size) W' := by
  obtain ⟨hb, k⟩ := Bx.alloc hy
  have h' := h.below hb
  have hs := h.size
  refine ⟨h'.lb, h'.hG, h.k6.box hb, h.k8.box hb, h.z.box hb, fun v e => (h.f v e).box hb, fun v e => (h.s v e).box hb, fun v e => (h.c v e).box hb, fun g e => ?_⟩
  obtain rfl := Option.some.inj e
  exact ⟨k, by omega⟩
theorem Ny.store {each : Bool} {fv sv cv : Value} {g : Nat} (h : Ny w fs half G hv (some fv) (some sv) (some cv) (some g) W) :
    Nz w fs half each G hv fv sv cv g ((((((((((W.setCell ⟨g, 0, none⟩ fv).setCell ⟨g, 1, none⟩ hv).setCell ⟨g, 2, none⟩ (.int .i64 half)).setCell ⟨g, 3, none⟩ (.int .i64 0)).setCell ⟨g, 4, none⟩ (.int .i64 0)).setCell ⟨g, 5, none⟩ sv).setCell ⟨g, 6, none⟩ cv).setCell ⟨g, 7, none⟩ (.slice none 0 0)).setCell ⟨g, 8, none⟩ (.int .i64 0)).setCell ⟨g, 9, none⟩ (.bool each)) := by
  obtain ⟨km, hg⟩ := h.m g rfl
  have hx := (((((((((km.set 0 (by simp) fv).set 1 (by simp) hv).set 2 (by simp) (.int .i64 half)).set 3 (by simp) (.int .i64 0)).set 4 (by simp) (.int .i64 0)).set 5 (by simp) sv).set 6 (by simp) cv).set 7 (by simp) (.slice none 0 0)).set 8 (by simp) (.int .i64 0)).set 9 (by simp) (.bool each)
  have hb := (((((((((((Below.refl w.heap.size W).setCell (p := ⟨g, 0, none⟩) (Nat.le_of_lt hg) fv).setCell (p := ⟨g, 1, none⟩) (Nat.le_of_lt hg) hv).setCell (p := ⟨g, 2, none⟩) (Nat.le_of_lt hg) (.int .i64 half)).setCell (p := ⟨g, 3, none⟩) (Nat.le_of_lt hg) (.int .i64 0)).setCell (p := ⟨g, 4, none⟩) (Nat.le_of_lt hg) (.int .i64 0)).setCell (p := ⟨g, 5, none⟩) (Nat.le_of_lt hg) sv).setCell (p := ⟨g, 6, none⟩) (Nat.le_of_lt hg) cv).setCell (p := ⟨g, 7, none⟩) (Nat.le_of_lt hg) (.slice none 0 0)).setCell (p := ⟨g, 8, none⟩) (Nat.le_of_lt hg) (.int .i64 0)).setCell (p := ⟨g, 9, none⟩) (Nat.le_of_lt hg) (.bool each))
  generalize hW : World.setCell _ _ _ = W2 at hx hb ⊢
  have hgr : W.grownBy W2 (some g) := by
    rw [← hW]
    repeat (with_reducible refine grownBy.trans ?_ (grownBy.setCell _ _ _ _))
    with_reducible exact grownBy.refl _ _
  have a : Ag (some g) W W2 := ⟨hgr.size, fun q hq hn => hgr.block q hq hn⟩
  exact ⟨h.lb.trans hb, h.k6 _ a, by simpa using hx, ⟨h.f _ rfl _ a, h.z _ a, h.s _ rfl _ a, h.c _ rfl _ a⟩, hg, h.k8 _ a⟩
end

theorem NewR0.rdV {base : Nat} {W : World} {fv hv sv cv : Value} {fs : List F2} {half : Nat} (N : NewR0 base W fv hv sv cv fs half) (each : Bool) : RdV W.heap.size W fv hv sv cv (.slice none 0 0) (newL fs half each) := by
  refine RdV.of_own (base := base) ⟨N.f, ?_, N.s, N.c, World.ownsRow_nil _ _ _ _⟩
  show W.ownsRow base 3 1 hv (List.replicate (2 * half) 0).length _
  rw [List.length_replicate]
  exact N.z
theorem ints_in_of {ws : List Int} (h : ∀ x ∈ ws, -9223372036854775808 ≤ x ∧ x ≤ 9223372036854775807) : intsIn ws := by
  intro j
  rw [List.getD_eq_getElem?_getD]
  by_cases hj : j < ws.length
  · rw [List.getElem?_eq_getElem hj]
    exact h _ (List.getElem_mem hj)
  · rw [List.getElem?_eq_none (by omega)]
    simp
theorem new_in (fs : List F2) (half : Nat) (each : Bool) (hin : ∀ x ∈ fs, fnIn x) (h2 : half ≤ 3000) : vmIn (newL fs half each) := by
  refine ⟨hin, ?_, ?_, ?_, ?_, ?_, ?_, ?_, ?_⟩ <;> unfold newL <;> dsimp only
  · refine ints_in_of fun x hx => ?_
    rw [List.mem_replicate] at hx
    obtain ⟨_, rfl⟩ := hx
    omega
  · omega
  · omega
  · omega
  · refine ints_in_of fun x hx => ?_
    simp at hx
    omega
  · intro x hx
    simp at hx
    subst hx
    unfold o3In
    dsimp only
    omega
  · refine ints_in_of fun x hx => ?_
    simp at hx
  · omega
theorem new_sz (fs : List F2) (half : Nat) (each : Bool) (hv : verB fs = true) (h2 : half ≤ 3000) : vmSz (newL fs half each) ≤ 1048576 := by
  have := ver_small hv
  unfold vmSz newL
  simp only [List.length_replicate, List.length_cons, List.length_nil]
  omega

end Go.Proofs.Ytlkdlcpfcacigaa
