/- append([]T{}, xs...) of elements of several cells, as a step of a region walked by hand. Nothing of the program is named here. -/
import Derived.Test.YtlkdlcpfcacigaaAppR
import Derived.Test.YtlkdlcpfcacigaaMgElem
namespace Go.Proofs.Ytlkdlcpfcacigaa
open Go.RowKit
set_option linter.unusedVariables false

theorem RdE.flat_cell {α : Type} {enc : α → List Value} {size : Nat} {w : World} {b off : Nat} {xs : List α} (hs : ∀ x, (enc x).length = size)
    (hc : ∀ (j : Nat) (x : α), xs[j]? = some x → ∀ t, t < size → w.cell? ⟨b, off + j * size + t, none⟩ = (enc x)[t]?) (h0 : 0 < size) :
    ∀ (j : Nat) (u : Value), (flat enc xs)[j]? = some u → w.cell? ((⟨b, off, none⟩ : Addr).add j) = some u := by
  intro j u hj
  have hadd : (⟨b, off, none⟩ : Addr).add j = ⟨b, off + j, none⟩ := by unfold Addr.add; split <;> simp_all
  have hjl : j < xs.length * size := by
    rw [← flat_len hs xs]
    exact (List.getElem?_eq_some_iff.1 hj).1
  have hq : j / size < xs.length := (Nat.div_lt_iff_lt_mul h0).2 hjl
  have ht : j % size < size := Nat.mod_lt _ h0
  have hjj : j / size * size + j % size = j := by rw [Nat.mul_comm]; exact Nat.div_add_mod j size
  have e1 := hc (j / size) xs[j / size] (List.getElem?_eq_getElem hq) (j % size) ht
  have e2 := flat_at hs xs (j / size) xs[j / size] (List.getElem?_eq_getElem hq) (j % size) ht
  rw [hjj, hj] at e2
  rw [hadd, ← hjj, ← Nat.add_assoc, e1, ← e2]

theorem step_copyE {P : Program} {w : World} {α : Type} {enc : α → List Value} {o : Oper} {a : Act} {K : Act → World → Prop} {Q : Exit → Act → World → Prop} (s x : Operand) (t : TypeId)
    (ho : o.op = .call { callee := .builtin .append, args := #[s, x], argTypes := #[t, t] })
    (base : Nat) (e : TypeId) (i : TypeInfo) (z : Value) (size bytes : Nat) (ht : P.underlying t = some (.slice e)) (hi : P.info? e = some i) (hz : i.zero = some z)
    (hsize : i.size = size) (hby : i.bytes = bytes) (hzs : z.cells.size = size) (hsz : 0 < size) (hs3 : ∀ x, (enc x).length = size) (hone : ∀ x, ∀ u ∈ enc x, u.oneCell' = true)
    (g : Nat) (hs : a.eval s = .slice (some ⟨g, 0, none⟩) 0 0) (hg : w.heap[g]? = some (.cells #[] e (0, 0))) (hbg : base ≤ g)
    {B : Nat} (v : Value) (xs : List α) (hx : a.eval x = v) (hr : RdE enc size B w v xs)
    (h63 : xs.length ≤ 4294967296) (hbytes : bytes ≤ 1000)
    (h : ∀ v' w', w'.ownsRow base e size v' xs.length (flat enc xs) → w.grownBy w' (some g) → (v'.ownBlock = some g ∨ v'.ownBlock = some w.heap.size) → K (a.put o.dst v') w') : o.wp P a w K Q := by
  have hlt : g < w.heap.size := (Array.getElem?_eq_some_iff.1 hg).1
  have hown : w.ownsRow base e size (.slice (some ⟨g, 0, none⟩) 0 0) 0 [] := ⟨by simp, .inr ⟨g, 0, #[], rfl, hbg, hg, Nat.le_refl _, Nat.zero_le _, by simp, by simp⟩⟩
  have fin : ∃ v' w', (Builtin.append_ #[t, t] o.type #[.slice (some ⟨g, 0, none⟩) 0 0, v]).run P w = .ok v' w' ∧ w'.ownsRow base e size v' xs.length (flat enc xs) ∧ w.grownBy w' (some g) ∧ (v'.ownBlock = some g ∨ v'.ownBlock = some w.heap.size) := by
    rcases hr with ⟨rfl, A, cap, rfl⟩ | ⟨b, off, cap, rfl, _, _, hl, hc⟩
    · cases A with
      | none =>
        refine ⟨.slice (some ⟨g, 0, none⟩) 0 0, w, ?_, by simpa [flat] using hown, grownBy.refl w _, .inl rfl⟩
        simp [Builtin.append_, run_underlying ht, sizeOf, typeInfo, hi, Builtin.lenOf, Builtin.firstCells, storeCells]
      | some ad =>
        obtain ⟨v', w', h1, h2, h3, _, h5⟩ := run_append_own_at (P := P) w base t o.type e i z size bytes ht hi hz hsize hby hzs hsz _ 0 [] hown ad 0 cap [] (by simp) (by intro j u hj; simp at hj) (by intro u hu; cases hu) (by unfold maxLen; omega) (by omega) (by omega)
        exact ⟨v', w', h1, by simpa [flat] using h2, h3, h5⟩
    · obtain ⟨v', w', h1, h2, h3, _, h5⟩ := run_append_own_at (P := P) w base t o.type e i z size bytes ht hi hz hsize hby hzs hsz _ 0 [] hown ⟨b, off, none⟩ xs.length cap (flat enc xs) (flat_len hs3 xs) (RdE.flat_cell hs3 hc hsz) (by
        intro u hu
        unfold flat at hu
        obtain ⟨y, _, hy⟩ := List.mem_flatMap.1 hu
        exact hone y u hy) (by unfold maxLen; omega) (by
        have : (0 + xs.length) * bytes ≤ 4294967296 * 1000 := Nat.mul_le_mul (by omega) hbytes
        omega) (by omega)
      exact ⟨v', w', h1, by simpa using h2, h3, h5⟩
  obtain ⟨v', w', hrun, h2, h3, h4⟩ := fin
  unfold Oper.wp execOp
  simp only [ho, resolve, invoke, builtin, Sem.run_bind, Sem.run_pure, Result.andThen_ok, List.map_toArray, List.map_cons, List.map_nil, hs, hx, hrun]
  exact h v' w' h2 h3 h4

end Go.Proofs.Ytlkdlcpfcacigaa
