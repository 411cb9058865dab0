/- append of what reads as a list, as a step of a region that draws its order. Nothing of the program is named here. -/
import Derived.Test.YtlkdlcpfcacigaaClone
import Derived.Maps.AppendAt
import Derived.Deep.RegionHeld3
import Derived.Deep.DrawnRows
import Derived.Deep.AppendLies
namespace Go.Proofs.Ytlkdlcpfcacigaa
open Go.RowKit
set_option linter.unusedVariables false

section
variable {P : Program} (w : World)
theorem run_app_rd (base : Nat) (t ty e : TypeId) (i : TypeInfo) (z : Value) (bytes : Nat) (ht : P.underlying t = some (.slice e)) (hi : P.info? e = some i) (hz : i.zero = some z)
    (hsize : i.size = 1) (hby : i.bytes = bytes) (hzs : z.cells.size = 1)
    (v : Value) (n : Nat) (xs : List Value) (hown : w.ownsRow base e 1 v n xs) {B : Nat} {k : IntKind} (A : Option Addr) (m c : Nat) (zs : List Int) (hr : Rd B k w (.slice A m c) zs)
    (h63 : n + m ≤ maxLen) (hbytes : (n + m) * bytes ≤ 140737488355328) (hbase : base ≤ w.heap.size) :
    ∃ v' w', (Builtin.append_ #[t, t] ty #[v, .slice A m c]).run P w = .ok v' w' ∧ w'.ownsRow base e 1 v' (n + m) (xs ++ zs.map (Value.int k)) ∧ w.grownBy w' v.ownBlock ∧
      (v'.ownBlock = v.ownBlock ∨ v'.ownBlock = some w.heap.size) := by
  cases A with
  | none =>
    have hz' : zs = [] := hr.none_nil
    subst hz'
    obtain ⟨a', c', hf⟩ := hr.form
    cases hf
    refine ⟨v, w, ?_, by simpa using hown, grownBy.refl w _, .inl rfl⟩
    rcases hown.2 with ⟨rfl, rfl⟩ | ⟨g, cap, cur, rfl, _, _, hnc, _⟩
    · simp [Builtin.append_, run_underlying ht, sizeOf, typeInfo, hi, Builtin.lenOf, Builtin.firstCells]
    · simp [Builtin.append_, run_underlying ht, sizeOf, typeInfo, hi, Builtin.lenOf, Builtin.firstCells, hnc, storeCells]
  | some ad =>
    obtain ⟨rfl, hc⟩ := hr.news (Below.refl _ _)
    obtain ⟨v', w', h1, h2, h3, _, h5⟩ := run_append_own_at (P := P) w base t ty e i z 1 bytes ht hi hz hsize hby hzs (by decide) v n xs hown ad zs.length c (zs.map (Value.int k)) (by simp) hc (ints_one k zs) h63 hbytes hbase
    exact ⟨v', w', h1, h2, h3, h5⟩

/-- append([]T{}, xs...): at whatever step. -/
theorem wp_copy_rd {o : Oper} {a : Act} {K : Act → World → Prop} {Q : Exit → Act → World → Prop} (s x : Operand) (t : TypeId)
    (ho : o.op = .call { callee := .builtin .append, args := #[s, x], argTypes := #[t, t] })
    (base : Nat) (e : TypeId) (i : TypeInfo) (z : Value) (bytes : Nat) (ht : P.underlying t = some (.slice e)) (hi : P.info? e = some i) (hz : i.zero = some z)
    (hsize : i.size = 1) (hby : i.bytes = bytes) (hzs : z.cells.size = 1)
    (g : Nat) (hs : a.eval s = .slice (some ⟨g, 0, none⟩) 0 0) (hg : w.heap[g]? = some (.cells #[] e (0, 0))) (hbg : base ≤ g)
    {B : Nat} {k : IntKind} (A : Option Addr) (m c : Nat) (zs : List Int) (hx : a.eval x = .slice A m c) (hr : Rd B k w (.slice A m c) zs)
    (h63 : m ≤ 4294967296) (hbytes : bytes ≤ 1000)
    (h : ∀ v' w', w'.ownsRow base e 1 v' zs.length (zs.map (Value.int k)) → w.grownBy w' (some g) → K (a.put o.dst v') w') : o.wp P a w K Q := by
  have hlt : g < w.heap.size := (Array.getElem?_eq_some_iff.1 hg).1
  have hown : w.ownsRow base e 1 (.slice (some ⟨g, 0, none⟩) 0 0) 0 [] := ⟨by simp, .inr ⟨g, 0, #[], rfl, hbg, hg, Nat.le_refl _, Nat.zero_le _, by simp, by simp⟩⟩
  have hm : m = zs.length := by obtain ⟨a', c', hf⟩ := hr.form; injection hf
  obtain ⟨v', w', hrun, h2, h3, _⟩ := run_app_rd (P := P) w base t o.type e i z bytes ht hi hz hsize hby hzs _ 0 [] hown A m c zs hr (by unfold maxLen; omega) (by
    have : (0 + m) * bytes ≤ 4294967296 * 1000 := Nat.mul_le_mul (by omega) hbytes
    omega) (by omega)
  unfold Oper.wp execOp
  simp only [ho, resolve, invoke, builtin, Sem.run_bind, Sem.run_pure, Result.andThen_ok, List.map_toArray, List.map_cons, List.map_nil, hs, hx, hrun]
  exact h v' w' (by simpa [hm] using h2) h3

theorem wpList_copy_rd {ops : Array Oper} {rest : List Oper} {o : Oper} {a : Act} {Q : Exit → Act → World → Prop} (hgd : o.guard = none) (s x : Operand) (t : TypeId)
    (ho : o.op = .call { callee := .builtin .append, args := #[s, x], argTypes := #[t, t] })
    (base : Nat) (e : TypeId) (i : TypeInfo) (z : Value) (bytes : Nat) (ht : P.underlying t = some (.slice e)) (hi : P.info? e = some i) (hz : i.zero = some z)
    (hsize : i.size = 1) (hby : i.bytes = bytes) (hzs : z.cells.size = 1)
    (g : Nat) (hs : a.eval s = .slice (some ⟨g, 0, none⟩) 0 0) (hg : w.heap[g]? = some (.cells #[] e (0, 0))) (hbg : base ≤ g)
    {B : Nat} {k : IntKind} (A : Option Addr) (m c : Nat) (zs : List Int) (hx : a.eval x = .slice A m c) (hr : Rd B k w (.slice A m c) zs)
    (h63 : m ≤ 4294967296) (hbytes : bytes ≤ 1000)
    (h : ∀ v' w', w'.ownsRow base e 1 v' zs.length (zs.map (Value.int k)) → w.grownBy w' (some g) → wpList P ops Q rest (a.put o.dst v') w') : wpList P ops Q (o :: rest) a w :=
  wpList_plain hgd fun _ hK => wp_copy_rd w s x t ho base e i z bytes ht hi hz hsize hby hzs g hs hg hbg A m c zs hx hr h63 hbytes fun v' w' h2 h3 => hK _ _ (h v' w' h2 h3)

/-- append(out, xs...) to a row of the call's own. -/
theorem wpList_app_rd {ops : Array Oper} {rest : List Oper} {o : Oper} {a : Act} {Q : Exit → Act → World → Prop} (hgd : o.guard = none) (s x : Operand) (t : TypeId)
    (ho : o.op = .call { callee := .builtin .append, args := #[s, x], argTypes := #[t, t] })
    (base : Nat) (e : TypeId) (i : TypeInfo) (z : Value) (bytes : Nat) (ht : P.underlying t = some (.slice e)) (hi : P.info? e = some i) (hz : i.zero = some z)
    (hsize : i.size = 1) (hby : i.bytes = bytes) (hzs : z.cells.size = 1)
    (v : Value) (n : Nat) (xs : List Value) (hs : a.eval s = v) (hown : w.ownsRow base e 1 v n xs)
    {B : Nat} {k : IntKind} (A : Option Addr) (m c : Nat) (zs : List Int) (hx : a.eval x = .slice A m c) (hr : Rd B k w (.slice A m c) zs)
    (h63 : n + m ≤ 4294967296) (hbytes : bytes ≤ 1000) (hbase : base ≤ w.heap.size)
    (h : ∀ v' w', w'.ownsRow base e 1 v' (n + m) (xs ++ zs.map (Value.int k)) → w.grownBy w' v.ownBlock → (v'.ownBlock = v.ownBlock ∨ v'.ownBlock = some w.heap.size) → wpList P ops Q rest (a.put o.dst v') w') : wpList P ops Q (o :: rest) a w := by
  refine wpList_plain hgd fun _ hK => ?_
  obtain ⟨v', w', hrun, h2, h3, h4⟩ := run_app_rd (P := P) w base t o.type e i z bytes ht hi hz hsize hby hzs v n xs hown A m c zs hr (by unfold maxLen; omega) (by
    have : (n + m) * bytes ≤ 4294967296 * 1000 := Nat.mul_le_mul h63 hbytes
    omega) hbase
  unfold Oper.wp execOp
  simp only [ho, resolve, invoke, builtin, Sem.run_bind, Sem.run_pure, Result.andThen_ok, List.map_toArray, List.map_cons, List.map_nil, hs, hx, hrun]
  exact hK _ _ (h v' w' h2 h3 h4)

theorem step_copy_rd {ops : Array Oper} {o : Oper} {a : Act} {K : Act → World → Prop} {Q : Exit → Act → World → Prop} {E : Prop} (hgd : o.guard = none) (s x : Operand) (t : TypeId)
    (ho : o.op = .call { callee := .builtin .append, args := #[s, x], argTypes := #[t, t] })
    (base : Nat) (e : TypeId) (i : TypeInfo) (z : Value) (bytes : Nat) (ht : P.underlying t = some (.slice e)) (hi : P.info? e = some i) (hz : i.zero = some z)
    (hsize : i.size = 1) (hby : i.bytes = bytes) (hzs : z.cells.size = 1)
    (g : Nat) (hs : a.eval s = .slice (some ⟨g, 0, none⟩) 0 0) (hg : w.heap[g]? = some (.cells #[] e (0, 0))) (hbg : base ≤ g)
    {B : Nat} {k : IntKind} (A : Option Addr) (m c : Nat) (zs : List Int) (hx : a.eval x = .slice A m c) (hr : Rd B k w (.slice A m c) zs)
    (h63 : m ≤ 4294967296) (hbytes : bytes ≤ 1000)
    (h : ∀ v' w', w'.ownsRow base e 1 v' zs.length (zs.map (Value.int k)) → w.grownBy w' (some g) → K (a.put o.dst v') w') :
    if Region.wanted o (yielded ops a.tmps) = true then Oper.wp P o a w K Q else E := by
  have hw : Region.wanted o (yielded ops a.tmps) = true := by simp [Region.wanted, hgd]
  rw [if_pos hw]
  exact wp_copy_rd w s x t ho base e i z bytes ht hi hz hsize hby hzs g hs hg hbg A m c zs hx hr h63 hbytes h
end

/-- append of ONE element, laid in a new block ahead of it, to a row of the call's own; where the row lies then. -/
theorem wpList_app1_at {P : Program} {w : World} {ops : Array Oper} {rest : List Oper} {o : Oper} {a : Act} {Q : Exit → Act → World → Prop} (hgd : o.guard = none) (s x : Operand) (t : TypeId)
    (ho : o.op = .call { callee := .builtin .append, args := #[s, x], argTypes := #[t, t] })
    (base : Nat) (e : TypeId) (i : TypeInfo) (z : Value) (size bytes : Nat) (ht : P.underlying t = some (.slice e)) (hi : P.info? e = some i) (hz : i.zero = some z)
    (hsize : i.size = size) (hby : i.bytes = bytes) (hzs : z.cells.size = size) (hsz : 0 < size)
    (v : Value) (n : Nat) (xs : List Value) (hs : a.eval s = v) (hown : w.ownsRow base e size v n xs) (us : Array Value) (hus : us.size = size) (h1 : ∀ u ∈ us.toList, u.oneCell' = true)
    (H : Nat) (hH : w.heap.size = H) (hx : a.eval x = .slice (some ⟨H, 0, none⟩) 1 1)
    (h63 : n + 1 ≤ maxLen) (hbytes : (n + 1) * bytes ≤ 140737488355328) (hbase : base ≤ w.heap.size)
    (h : ∀ v' w', w'.ownsRow base e size v' (n + 1) (xs ++ us.toList) → w.grownBy w' v.ownBlock → (v'.ownBlock = v.ownBlock ∨ v'.ownBlock = some (H + 1)) → wpList P ops Q rest (a.put o.dst v') w') :
    wpList P ops Q (o :: rest) a (w.alloc (.cells us e)) := by
  subst hH
  refine wpList_plain hgd fun K hK => ?_
  obtain ⟨v', w', hrun, h2, h3, _, h5⟩ := run_append_own_at (P := P) (w.alloc (.cells us e)) base t o.type e i z size bytes ht hi hz hsize hby hzs hsz v n xs (hown.alloc _) ⟨w.heap.size, 0, none⟩ 1 1 us.toList (by simp [hus]) (by
    intro j u hj
    have hadd : (⟨w.heap.size, 0, none⟩ : Addr).add j = ⟨w.heap.size, j, none⟩ := by unfold Addr.add; split <;> simp_all
    rw [hadd, World.cell?_alloc_at _ _ _ _ rfl]
    simpa using hj) h1 h63 hbytes (by simp; omega)
  unfold Oper.wp execOp
  simp only [ho, resolve, invoke, builtin, Sem.run_bind, Sem.run_pure, Result.andThen_ok, List.map_toArray, List.map_cons, List.map_nil, hs, hx, hrun]
  exact hK _ _ (h v' w' h2 ((World.grownBy_alloc w _ _).trans' h3) (by simpa using h5))

/-- the cell of a row that is owned, wherever it lies. -/
theorem own_cell_any {base : Nat} {e : TypeId} {w : World} {a : Option Addr} {cap n : Nat} {xs : List Value} (h : w.ownsRow base e 1 (.slice a n cap) n xs) (j : Nat) (hj : j < n) : ∃ g, a = some ⟨g, 0, none⟩ ∧ w.cell? ⟨g, j, none⟩ = xs[j]? := by
  rcases h.2 with ⟨hv, _⟩ | ⟨g, cap', cur, hv, _⟩
  · injection hv with _ h2 _
    omega
  · cases hv
    exact ⟨g, rfl, own_cell h j hj⟩

theorem alloc_frozen {x : World} {o : Obj} {p : Addr} (h : p.block < x.heap.size) : (x.alloc o).frozen? p = x.frozen? p := ((Below.refl x.heap.size x).alloc (Nat.le_refl _) o).frozen h
theorem alloc_cell {x : World} {o : Obj} {p : Addr} (h : p.block < x.heap.size) : (x.alloc o).cell? p = x.cell? p := ((Below.refl x.heap.size x).alloc (Nat.le_refl _) o).cell h
/-- what a cell holds, by name: a rule that a walk may rewrite by, before and behind a store. -/
def cellAt (w : World) (p : Addr) : Value := (w.cell? p).getD undef
def Has (w : World) (p : Addr) : Prop := ∃ u, w.cell? p = some u
theorem cellAt_of {w : World} {p : Addr} (h : Has w p) : w.cell? p = some (cellAt w p) := by
  obtain ⟨u, hu⟩ := h
  simp [cellAt, hu]
theorem Has.drew {w : World} {p : Addr} (h : Has w p) : Has w.drew p := h
theorem Has.alloc {w : World} {p : Addr} (h : Has w p) (hp : p.block < w.heap.size) (o : Obj) : Has (w.alloc o) p := by
  obtain ⟨u, hu⟩ := h
  exact ⟨u, (alloc_cell hp).trans hu⟩
theorem Has.grown {w w' : World} {p : Addr} {row : Option Nat} (h : Has w p) (hg : w.grownBy w' row) (hp : p.block < w.heap.size) (hne : some p.block ≠ row) : Has w' p := by
  obtain ⟨u, hu⟩ := h
  exact ⟨u, (hg.cell_far p hp hne).trans hu⟩
theorem Has.setCell {w : World} {p : Addr} (h : Has w p) (q : Addr) (x : Value) : Has (w.setCell q x) p := by
  obtain ⟨u, hu⟩ := h
  obtain ⟨v, hv⟩ := cell?_setCell_some (w := w) (p := q) (x := x) (q := p) (v := u) hu
  exact ⟨v, hv⟩
theorem Below.grown_at {B g : Nat} {w0 w w' : World} (hb : Below B w0 w) (hg : w.grownBy w' (some g)) (hB : B ≤ w.heap.size) (hr : B ≤ g) : Below B w0 w' :=
  hb.grown hg hB (fun k hk => by cases hk; exact hr)

end Go.Proofs.Ytlkdlcpfcacigaa
