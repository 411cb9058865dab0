/-
Regions that draw their order: pairs of stores, whichever comes first.
-/
import Derived.Test.YtjidglpldjcmdaaGreatEvJ
set_option linter.unusedVariables false
set_option linter.unusedSimpArgs false
set_option maxRecDepth 20000
namespace Go.Ev
open Go

theorem lput_get {c l : List S} {o : Nat} (hf : o + l.length ≤ c.length) (i : Nat) : (lput c l o)[i]? = if o ≤ i ∧ i < o + l.length then l[i - o]? else c[i]? := by
  rw [lput_eq]
  have hk : (c.take o).length = o := by simp; omega
  by_cases h1 : i < o
  · rw [List.getElem?_append_left (by omega), if_neg (by omega), List.getElem?_take, if_pos h1]
  · rw [List.getElem?_append_right (by omega), hk]
    by_cases h2 : i < o + l.length
    · rw [List.getElem?_append_left (by omega), if_pos ⟨by omega, h2⟩]
    · rw [List.getElem?_append_right (by omega), if_neg (by omega), List.getElem?_drop]
      rw [show o + l.length + (i - o - l.length) = i by omega]
theorem lput_len {c l : List S} {o : Nat} (hf : o + l.length ≤ c.length) : (lput c l o).length = c.length := by rw [lput_eq]; simp; omega
theorem lput_comm {c l m : List S} {o p : Nat} (h1 : o + l.length ≤ c.length) (h2 : p + m.length ≤ c.length) (hd : o + l.length ≤ p ∨ p + m.length ≤ o) : lput (lput c l o) m p = lput (lput c m p) l o := by
  apply List.ext_getElem?
  intro i
  have e1 := lput_get (c := lput c l o) (l := m) (o := p) (by rw [lput_len h1]; exact h2) i
  have e2 := lput_get (c := lput c m p) (l := l) (o := o) (by rw [lput_len h2]; exact h1) i
  have e3 := lput_get h1 i
  have e4 := lput_get h2 i
  rw [e1, e2, e3, e4]
  by_cases k1 : p ≤ i ∧ i < p + m.length
  · rw [if_pos k1, if_neg (by omega), if_pos k1]
  · rw [if_neg k1]
    by_cases k2 : o ≤ i ∧ i < o + l.length
    · rw [if_pos k2, if_pos k2]
    · rw [if_neg k2, if_neg k2, if_neg k1]

theorem setc_get {s s' : St} {x o : Nat} {l : List S} (h : setc s x o l = some s') : ∃ b, s.h.get x = some b ∧ s'.nb = s.nb ∧ s'.nf = s.nf ∧ s'.fm = s.fm ∧ ∀ y, s'.h.get y = if y = x then some ⟨lput b.c l o, b.fam, b.d⟩ else s.h.get y := by
  unfold setc at h
  cases hb : s.h.get x with
  | none => rw [hb] at h; simp at h
  | some b =>
    rw [hb] at h
    simp only [Option.some.injEq] at h
    refine ⟨b, rfl, by rw [← h], by rw [← h], by rw [← h], fun y => ?_⟩
    rw [← h]; exact T.get_upd (some (⟨lput b.c l o, b.fam, b.d⟩ : Bk)) s.h x y
theorem setc_some {s : St} {x o : Nat} {l : List S} {b : Bk} (h : s.h.get x = some b) : ∃ s', setc s x o l = some s' := by
  unfold setc; rw [h]; exact ⟨_, rfl⟩
theorem setc_comm {s sa sb : St} {x₁ o₁ x₂ o₂ : Nat} {l₁ l₂ : List S} (h1 : setc s x₁ o₁ l₁ = some sa) (h2 : setc sa x₂ o₂ l₂ = some sb) (f1 : ∀ b, s.h.get x₁ = some b → o₁ + l₁.length ≤ b.c.length) (f2 : ∀ b, s.h.get x₂ = some b → o₂ + l₂.length ≤ b.c.length)
    (hd : x₁ ≠ x₂ ∨ o₁ + l₁.length ≤ o₂ ∨ o₂ + l₂.length ≤ o₁) : ∃ sc sd, setc s x₂ o₂ l₂ = some sc ∧ setc sc x₁ o₁ l₁ = some sd ∧ Same sd sb := by
  obtain ⟨b1, g1, n1, m1, k1, q1⟩ := setc_get h1
  obtain ⟨b2, g2, n2, m2, k2, q2⟩ := setc_get h2
  by_cases hx : x₁ = x₂
  · subst hx
    obtain ⟨sc, h3⟩ := setc_some (o := o₂) (l := l₂) g1
    obtain ⟨b3, g3, n3, m3, k3, q3⟩ := setc_get h3
    rw [g1] at g3
    simp only [Option.some.injEq] at g3; subst g3
    have g4 : sc.h.get x₁ = some ⟨lput b1.c l₂ o₂, b1.fam, b1.d⟩ := by rw [q3, if_pos rfl]
    obtain ⟨sd, h4⟩ := setc_some (o := o₁) (l := l₁) g4
    obtain ⟨b4, g5, n4, m4, k4, q4⟩ := setc_get h4
    rw [g4] at g5
    simp only [Option.some.injEq] at g5; subst g5
    refine ⟨sc, sd, h3, h4, by rw [n2, n1, n4, n3], by rw [m2, m1, m4, m3], fun y => ?_, fun f => by rw [k2, k1, k4, k3]⟩
    rw [q2, q4]
    split
    · rw [q1, if_pos rfl] at g2
      simp only [Option.some.injEq] at g2; subst g2
      show some (⟨lput (lput b1.c l₁ o₁) l₂ o₂, _, _⟩ : Bk) = some ⟨lput (lput b1.c l₂ o₂) l₁ o₁, _, _⟩
      rw [lput_comm (f1 b1 g1) (f2 b1 g1) (hd.resolve_left (fun h => h rfl))]
    · rename_i hne
      rw [q1, q3, if_neg hne, if_neg hne]
  · have g2' : s.h.get x₂ = some b2 := by rw [q1, if_neg (fun e => hx e.symm)] at g2; exact g2
    obtain ⟨sc, h3⟩ := setc_some (o := o₂) (l := l₂) g2'
    obtain ⟨b3, g3, n3, m3, k3, q3⟩ := setc_get h3
    rw [g2'] at g3
    simp only [Option.some.injEq] at g3; subst g3
    have g4 : sc.h.get x₁ = some b1 := by rw [q3, if_neg hx]; exact g1
    obtain ⟨sd, h4⟩ := setc_some (o := o₁) (l := l₁) g4
    obtain ⟨b4, g5, n4, m4, k4, q4⟩ := setc_get h4
    rw [g4] at g5
    simp only [Option.some.injEq] at g5; subst g5
    refine ⟨sc, sd, h3, h4, by rw [n2, n1, n4, n3], by rw [m2, m1, m4, m3], fun y => ?_, fun f => by rw [k2, k1, k4, k3]⟩
    rw [q2, q4, q1, q3]
    by_cases e1 : y = x₁
    · have e2 : y ≠ x₂ := fun e => hx (e1.symm.trans e)
      rw [if_neg e2, if_pos e1, if_pos e1]
    · by_cases e2 : y = x₂
      · rw [if_pos e2, if_neg e1, if_pos e2]
      · rw [if_neg e2, if_neg e1, if_neg e1, if_neg e2]

theorem NO.mono {s s' : St} {x o n : Nat} (h : NO s x o n) (hh : ∀ y b, s'.h.get y = some b → s.h.get y = some b) : NO s' x o n :=
  fun y b bx h1 h2 h3 h4 h5 => h y b bx h1 (hh _ _ h2) (hh _ _ h3) h4 h5
theorem NO.setc {s s' : St} {x o n y p : Nat} {l : List S} (h : NO s x o n) (hs : Ev.setc s y p l = some s') (hf : ∀ b, s.h.get y = some b → p + l.length ≤ b.c.length) : NO s' x o n := by
  obtain ⟨b0, g, _, _, _, q⟩ := setc_get hs
  intro z b bx h1 h2 h3 h4 h5
  rw [q] at h2 h3
  have k2 : ∃ bx', s.h.get x = some bx' ∧ bx'.fam = bx.fam ∧ bx'.d = bx.d := by
    split at h2
    · rename_i e; subst e; simp only [Option.some.injEq] at h2; subst h2; exact ⟨b0, g, rfl, rfl⟩
    · exact ⟨bx, h2, rfl, rfl⟩
  have k3 : ∃ b', s.h.get z = some b' ∧ b'.fam = b.fam ∧ b'.d = b.d ∧ b'.c.length = b.c.length := by
    split at h3
    · rename_i e; subst e; simp only [Option.some.injEq] at h3; subst h3; exact ⟨b0, g, rfl, rfl, (lput_len (hf b0 g)).symm⟩
    · exact ⟨b, h3, rfl, rfl, rfl⟩
  obtain ⟨bx', m1, m2, m3⟩ := k2
  obtain ⟨b', m4, m5, m6, m7⟩ := k3
  have := h z b' bx' h1 m1 m4 (by rw [m5, m2]; exact h4) (by rw [m2]; exact h5)
  rw [m6, m7, m3] at this
  exact this

section
variable {P : Program} {ty : TypeId → Option TyI} {ibs : FuncId → Bool} {call : Nat → List V → St → Option (V × St)} {nt : Nat}
variable {ops : Array Oper} {infs : List Inf} {cls : List Nat} {prs : List (Nat × Nat)} {order : List Nat} {s0 : St} {ρ0 : Rho} {w0 : World} {pre : List Nat} {rest : List HS} {e : E} {s : St} {listed : Array Bool} {ρ : Rho} {act : Act} {w : World}

theorem st_inv {op : Op} {n : Nat} {a v : O} (h : cMO ty ibs op = some (.m (.st n a v))) : ∃ t y z i, op = .store t y z ∧ ty t = some i ∧ n = i.sz ∧ cO y = some a ∧ cO z = some v := by
  cases op
  case store t y z =>
    simp only [cMO] at h
    split at h <;> simp only [Option.some.injEq, reduceCtorEq, MO.m.injEq, M.st.injEq] at h
    rename_i i y' z' hi hy hz
    obtain ⟨rfl, rfl, rfl⟩ := h
    exact ⟨t, y, z, i, rfl, hi, rfl, hy, hz⟩
  case makeFunc fn first caps =>
    cases fn <;> simp only [cMO, reduceCtorEq] at h
    split at h <;> simp at h
  case call c =>
    simp only [cMO] at h
    split at h
    · split at h
      · exact absurd h (by
          intro hh
          unfold cBuiltin at hh
          (repeat' split at hh) <;> simp at hh)
      · (repeat' split at h) <;> simp at h
      · simp at h
      · simp at h
    · simp at h
  all_goals
    first
      | (simp only [cMO, reduceCtorEq] at h; done)
      | (simp only [cMO, Option.map_eq_some_iff, reduceCtorEq, and_false, exists_false] at h; done)
      | (simp only [cMO] at h; (repeat' split at h) <;> simp at h; done)

/-- A store, prepared, is carried out. -/
theorem st_wp (C : Ctx P ty ibs call nt ops infs cls prs order) {i : Nat} {a : Inf} (ha : infs[i]? = some a) {n : Nat} {oa ob : O} (hx : a.x = .m (.st n oa ob)) (hg : a.g = none) (hdst : a.o.dst = none)
    (htemps : ∀ t ∈ a.ts, ∀ v, e.get t = some v → VR ρ v (act.tmps.getD t undef)) {x o : Nat} {l : List S} (h1 : os e oa = .p x o) (h2 : cellsOf (ov e ob) = some l) (hn : l.length = n) {σ σ' : St} (hr : Rel ρ σ w) (hno : NO σ x o l.length)
    (hfit : ∀ b, σ.h.get x = some b → o + l.length ≤ b.c.length) (hs : setc σ x o l = some σ') {K : Act → World → Prop} {Q : Exit → Act → World → Prop} (hK : ∀ w', Rel ρ σ' w' → Go σ ρ w σ' ρ w' → K act w') : wpOp P ops Q i K act w := by
  obtain ⟨c1, c2, c3, c4⟩ := C.inf i a ha
  have her : ER ρ (some_ e a.ts) act := by
    intro t u hu
    rw [get_some_] at hu
    split at hu
    · rename_i ht; exact htemps t ht u hu
    · simp at hu
  have hts : a.ts = gT a.g ++ (oT oa ++ oT ob) := by unfold Inf.ts; rw [hx]; rfl
  have hlk : Like (gT a.g ++ (oT oa ++ oT ob)) (some_ e a.ts) e := by rw [← hts]; exact like_some_ _ _
  rw [hx] at c3
  obtain ⟨t, y, z, j, hop, hj, hnj, hy, hz⟩ := st_inv c3
  obtain ⟨inf, zv, hi1, hi2, hi3, hi4, hi5⟩ := C.hty.info hj
  obtain ⟨cb, sh, zz, r1, r2⟩ := her.at hy (s := .p x o) (by rw [os_like hlk.right.left]; exact h1)
  have hl := VR.cells (her.ov hz) (l := l) (by rw [ov_like hlk.right.right]; exact h2)
  obtain ⟨cur, el, k1, k2, k3, k4⟩ := setc_spec hr hs r1 hno hfit hl
  have hrun := run_storeCells_at P cb (sh + o) el (act.eval z).cells.toList 0 cur w k1 (by simpa using k2) hl.one
  simp only [Nat.add_zero] at hrun
  refine (wpOp_wanted (P := P) c1 c2 her).1 (by rw [hg]; rfl) ?_
  have : (Instr.storeAt t (act.eval y) (act.eval z)).run P w = .ok () (w.setRow cb (cur.toList.take (sh + o) ++ (act.eval z).cells.toList ++ cur.toList.drop (sh + o + (act.eval z).cells.toList.length)).toArray) := by
    unfold Instr.storeAt storeVar
    simp only [r2, Instr.sureAddr, Sem.run_bind, Sem.run_pure, Result.andThen_ok, run_size hi1]
    have hll := hl.length
    rw [if_neg (by rw [hi2, ← hnj, ← hn, hll]; simp)]
    exact hrun
  refine Oper.wp_skip (o := a.o) (w' := w.setRow cb (cur.toList.take (sh + o) ++ (act.eval z).cells.toList ++ cur.toList.drop (sh + o + (act.eval z).cells.toList.length)).toArray) ?_ ?_
  · unfold execOp
    rw [hop]
    simp only [Sem.run_bind, this, Result.andThen_ok]
    rfl
  · rw [hdst]
    exact hK _ k3 k4
end
end Go.Ev
