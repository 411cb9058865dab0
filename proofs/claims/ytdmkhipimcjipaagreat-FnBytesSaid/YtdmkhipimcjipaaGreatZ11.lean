/- Parts of the proof of FnBytes. -/
import Derived.Test.YtdmkhipimcjipaaGreatZ10
import Derived.Test.YtdmkhipimcjipaaGreatZ06
import Derived.Test.YtdmkhipimcjipaaGreatProg
import Derived.WalkKit
set_option linter.unusedVariables false
set_option linter.unusedSimpArgs false
section
set_option linter.unusedVariables false
set_option linter.unusedSimpArgs false
set_option maxRecDepth 20000
namespace Go.Ev
open Go
theorem lput_get {c l : List S} {o : Nat} (hf : o + l.length ≤ c.length) (i : Nat) : (lput c l o)[i]? = if o ≤ i ∧ i < o + l.length then l[i - o]? else c[i]? := by
  rw [lput_eq]
  have hk : (c.take o).length = o := by simp; omega
  by_cases h1 : i < o
  · rw [List.getElem?_append_left (by omega), if_neg (by omega), List.getElem?_take, if_pos h1]
  · rw [List.getElem?_append_right (by omega), hk]
    by_cases h2 : i < o + l.length
    · rw [List.getElem?_append_left (by omega), if_pos ⟨by omega, h2⟩]
    · rw [List.getElem?_append_right (by omega), if_neg (by omega), List.getElem?_drop]
      rw [show o + l.length + (i - o - l.length) = i by omega]
theorem lput_len {c l : List S} {o : Nat} (hf : o + l.length ≤ c.length) : (lput c l o).length = c.length := by rw [lput_eq]; simp; omega
theorem lput_comm {c l m : List S} {o p : Nat} (h1 : o + l.length ≤ c.length) (h2 : p + m.length ≤ c.length) (hd : o + l.length ≤ p ∨ p + m.length ≤ o) : lput (lput c l o) m p = lput (lput c m p) l o := by
  apply List.ext_getElem?
  intro i
  have e1 := lput_get (c := lput c l o) (l := m) (o := p) (by rw [lput_len h1]; exact h2) i
  have e2 := lput_get (c := lput c m p) (l := l) (o := o) (by rw [lput_len h2]; exact h1) i
  have e3 := lput_get h1 i
  have e4 := lput_get h2 i
  rw [e1, e2, e3, e4]
  by_cases k1 : p ≤ i ∧ i < p + m.length
  · rw [if_pos k1, if_neg (by omega), if_pos k1]
  · rw [if_neg k1]
    by_cases k2 : o ≤ i ∧ i < o + l.length
    · rw [if_pos k2, if_pos k2]
    · rw [if_neg k2, if_neg k2, if_neg k1]
theorem setc_get {s s' : St} {x o : Nat} {l : List S} (h : setc s x o l = some s') : ∃ b, s.h.get x = some b ∧ s'.nb = s.nb ∧ s'.nf = s.nf ∧ s'.fm = s.fm ∧ ∀ y, s'.h.get y = if y = x then some ⟨lput b.c l o, b.fam, b.d⟩ else s.h.get y := by
  unfold setc at h
  cases hb : s.h.get x with
  | none => rw [hb] at h; simp at h
  | some b =>
    rw [hb] at h
    simp only [Option.some.injEq] at h
    refine ⟨b, rfl, by rw [← h], by rw [← h], by rw [← h], fun y => ?_⟩
    rw [← h]; exact T.get_upd (some (⟨lput b.c l o, b.fam, b.d⟩ : Bk)) s.h x y
theorem setc_some {s : St} {x o : Nat} {l : List S} {b : Bk} (h : s.h.get x = some b) : ∃ s', setc s x o l = some s' := by
  unfold setc; rw [h]; exact ⟨_, rfl⟩
theorem setc_comm {s sa sb : St} {x₁ o₁ x₂ o₂ : Nat} {l₁ l₂ : List S} (h1 : setc s x₁ o₁ l₁ = some sa) (h2 : setc sa x₂ o₂ l₂ = some sb) (f1 : ∀ b, s.h.get x₁ = some b → o₁ + l₁.length ≤ b.c.length) (f2 : ∀ b, s.h.get x₂ = some b → o₂ + l₂.length ≤ b.c.length)
    (hd : x₁ ≠ x₂ ∨ o₁ + l₁.length ≤ o₂ ∨ o₂ + l₂.length ≤ o₁) : ∃ sc sd, setc s x₂ o₂ l₂ = some sc ∧ setc sc x₁ o₁ l₁ = some sd ∧ Same sd sb := by
  obtain ⟨b1, g1, n1, m1, k1, q1⟩ := setc_get h1
  obtain ⟨b2, g2, n2, m2, k2, q2⟩ := setc_get h2
  by_cases hx : x₁ = x₂
  · subst hx
    obtain ⟨sc, h3⟩ := setc_some (o := o₂) (l := l₂) g1
    obtain ⟨b3, g3, n3, m3, k3, q3⟩ := setc_get h3
    rw [g1] at g3
    simp only [Option.some.injEq] at g3; subst g3
    have g4 : sc.h.get x₁ = some ⟨lput b1.c l₂ o₂, b1.fam, b1.d⟩ := by rw [q3, if_pos rfl]
    obtain ⟨sd, h4⟩ := setc_some (o := o₁) (l := l₁) g4
    obtain ⟨b4, g5, n4, m4, k4, q4⟩ := setc_get h4
    rw [g4] at g5
    simp only [Option.some.injEq] at g5; subst g5
    refine ⟨sc, sd, h3, h4, by rw [n2, n1, n4, n3], by rw [m2, m1, m4, m3], fun y => ?_, fun f => by rw [k2, k1, k4, k3]⟩
    rw [q2, q4]
    split
    · rw [q1, if_pos rfl] at g2
      simp only [Option.some.injEq] at g2; subst g2
      show some (⟨lput (lput b1.c l₁ o₁) l₂ o₂, _, _⟩ : Bk) = some ⟨lput (lput b1.c l₂ o₂) l₁ o₁, _, _⟩
      rw [lput_comm (f1 b1 g1) (f2 b1 g1) (hd.resolve_left (fun h => h rfl))]
    · rename_i hne
      rw [q1, q3, if_neg hne, if_neg hne]
  · have g2' : s.h.get x₂ = some b2 := by rw [q1, if_neg (fun e => hx e.symm)] at g2; exact g2
    obtain ⟨sc, h3⟩ := setc_some (o := o₂) (l := l₂) g2'
    obtain ⟨b3, g3, n3, m3, k3, q3⟩ := setc_get h3
    rw [g2'] at g3
    simp only [Option.some.injEq] at g3; subst g3
    have g4 : sc.h.get x₁ = some b1 := by rw [q3, if_neg hx]; exact g1
    obtain ⟨sd, h4⟩ := setc_some (o := o₁) (l := l₁) g4
    obtain ⟨b4, g5, n4, m4, k4, q4⟩ := setc_get h4
    rw [g4] at g5
    simp only [Option.some.injEq] at g5; subst g5
    refine ⟨sc, sd, h3, h4, by rw [n2, n1, n4, n3], by rw [m2, m1, m4, m3], fun y => ?_, fun f => by rw [k2, k1, k4, k3]⟩
    rw [q2, q4, q1, q3]
    by_cases e1 : y = x₁
    · have e2 : y ≠ x₂ := fun e => hx (e1.symm.trans e)
      rw [if_neg e2, if_pos e1, if_pos e1]
    · by_cases e2 : y = x₂
      · rw [if_pos e2, if_neg e1, if_pos e2]
      · rw [if_neg e2, if_neg e1, if_neg e1, if_neg e2]
theorem NO.mono {s s' : St} {x o n : Nat} (h : NO s x o n) (hh : ∀ y b, s'.h.get y = some b → s.h.get y = some b) : NO s' x o n :=
  fun y b bx h1 h2 h3 h4 h5 => h y b bx h1 (hh _ _ h2) (hh _ _ h3) h4 h5
theorem NO.setc {s s' : St} {x o n y p : Nat} {l : List S} (h : NO s x o n) (hs : Ev.setc s y p l = some s') (hf : ∀ b, s.h.get y = some b → p + l.length ≤ b.c.length) : NO s' x o n := by
  obtain ⟨b0, g, _, _, _, q⟩ := setc_get hs
  intro z b bx h1 h2 h3 h4 h5
  rw [q] at h2 h3
  have k2 : ∃ bx', s.h.get x = some bx' ∧ bx'.fam = bx.fam ∧ bx'.d = bx.d := by
    split at h2
    · rename_i e; subst e; simp only [Option.some.injEq] at h2; subst h2; exact ⟨b0, g, rfl, rfl⟩
    · exact ⟨bx, h2, rfl, rfl⟩
  have k3 : ∃ b', s.h.get z = some b' ∧ b'.fam = b.fam ∧ b'.d = b.d ∧ b'.c.length = b.c.length := by
    split at h3
    · rename_i e; subst e; simp only [Option.some.injEq] at h3; subst h3; exact ⟨b0, g, rfl, rfl, (lput_len (hf b0 g)).symm⟩
    · exact ⟨b, h3, rfl, rfl, rfl⟩
  obtain ⟨bx', m1, m2, m3⟩ := k2
  obtain ⟨b', m4, m5, m6, m7⟩ := k3
  have := h z b' bx' h1 m1 m4 (by rw [m5, m2]; exact h4) (by rw [m2]; exact h5)
  rw [m6, m7, m3] at this
  exact this
section
variable {P : Program} {ty : TypeId → Option TyI} {ibs : FuncId → Bool} {call : Nat → List V → St → Option (V × St)} {nt : Nat}
variable {ops : Array Oper} {infs : List Inf} {cls : List Nat} {prs : List (Nat × Nat)} {order : List Nat} {s0 : St} {ρ0 : Rho} {w0 : World} {pre : List Nat} {rest : List HS} {e : E} {s : St} {listed : Array Bool} {ρ : Rho} {act : Act} {w : World}
theorem st_inv {op : Op} {n : Nat} {a v : O} (h : cMO ty ibs op = some (.m (.st n a v))) : ∃ t y z i, op = .store t y z ∧ ty t = some i ∧ n = i.sz ∧ cO y = some a ∧ cO z = some v := by
  cases op
  case store t y z =>
    simp only [cMO] at h
    split at h <;> simp only [Option.some.injEq, reduceCtorEq, MO.m.injEq, M.st.injEq] at h
    rename_i i y' z' hi hy hz
    obtain ⟨rfl, rfl, rfl⟩ := h
    exact ⟨t, y, z, i, rfl, hi, rfl, hy, hz⟩
  case makeFunc fn first caps =>
    cases fn <;> simp only [cMO, reduceCtorEq] at h
    split at h <;> simp at h
  case call c =>
    simp only [cMO] at h
    split at h
    · split at h
      · exact absurd h (by
          intro hh
          unfold cBuiltin at hh
          (repeat' split at hh) <;> simp at hh)
      · (repeat' split at h) <;> simp at h
      · simp at h
      · simp at h
    · simp at h
  all_goals
    first
      | (simp only [cMO, reduceCtorEq] at h; done)
      | (simp only [cMO, Option.map_eq_some_iff, reduceCtorEq, and_false, exists_false] at h; done)
      | (simp only [cMO] at h; (repeat' split at h) <;> simp at h; done)
theorem st_wp (C : Ctx P ty ibs call nt ops infs cls prs order) {i : Nat} {a : Inf} (ha : infs[i]? = some a) {n : Nat} {oa ob : O} (hx : a.x = .m (.st n oa ob)) (hg : a.g = none) (hdst : a.o.dst = none)
    (htemps : ∀ t ∈ a.ts, ∀ v, e.get t = some v → VR ρ v (act.tmps.getD t undef)) {x o : Nat} {l : List S} (h1 : os e oa = .p x o) (h2 : cellsOf (ov e ob) = some l) (hn : l.length = n) {σ σ' : St} (hr : Rel ρ σ w) (hno : NO σ x o l.length)
    (hfit : ∀ b, σ.h.get x = some b → o + l.length ≤ b.c.length) (hs : setc σ x o l = some σ') {K : Act → World → Prop} {Q : Exit → Act → World → Prop} (hK : ∀ w', Rel ρ σ' w' → Go σ ρ w σ' ρ w' → K act w') : wpOp P ops Q i K act w := by
  obtain ⟨c1, c2, c3, c4⟩ := C.inf i a ha
  have her : ER ρ (some_ e a.ts) act := by
    intro t u hu
    rw [get_some_] at hu
    split at hu
    · rename_i ht; exact htemps t ht u hu
    · simp at hu
  have hts : a.ts = gT a.g ++ (oT oa ++ oT ob) := by unfold Inf.ts; rw [hx]; rfl
  have hlk : Like (gT a.g ++ (oT oa ++ oT ob)) (some_ e a.ts) e := by rw [← hts]; exact like_some_ _ _
  rw [hx] at c3
  obtain ⟨t, y, z, j, hop, hj, hnj, hy, hz⟩ := st_inv c3
  obtain ⟨inf, zv, hi1, hi2, hi3, hi4, hi5⟩ := C.hty.info hj
  obtain ⟨cb, sh, zz, r1, r2⟩ := her.at hy (s := .p x o) (by rw [os_like hlk.right.left]; exact h1)
  have hl := VR.cells (her.ov hz) (l := l) (by rw [ov_like hlk.right.right]; exact h2)
  obtain ⟨cur, el, k1, k2, k3, k4⟩ := setc_spec hr hs r1 hno hfit hl
  have hrun := run_storeCells_at P cb (sh + o) el (act.eval z).cells.toList 0 cur w k1 (by simpa using k2) hl.one
  simp only [Nat.add_zero] at hrun
  refine (wpOp_wanted (P := P) c1 c2 her).1 (by rw [hg]; rfl) ?_
  have : (Instr.storeAt t (act.eval y) (act.eval z)).run P w = .ok () (w.setRow cb (cur.toList.take (sh + o) ++ (act.eval z).cells.toList ++ cur.toList.drop (sh + o + (act.eval z).cells.toList.length)).toArray) := by
    unfold Instr.storeAt storeVar
    simp only [r2, Instr.sureAddr, Sem.run_bind, Sem.run_pure, Result.andThen_ok, run_size hi1]
    have hll := hl.length
    rw [if_neg (by rw [hi2, ← hnj, ← hn, hll]; simp)]
    exact hrun
  refine Oper.wp_skip (o := a.o) (w' := w.setRow cb (cur.toList.take (sh + o) ++ (act.eval z).cells.toList ++ cur.toList.drop (sh + o + (act.eval z).cells.toList.length)).toArray) ?_ ?_
  · unfold execOp
    rw [hop]
    simp only [Sem.run_bind, this, Result.andThen_ok]
    rfl
  · rw [hdst]
    exact hK _ k3 k4
end
end Go.Ev
end
section
set_option linter.unusedVariables false
set_option linter.unusedSimpArgs false
set_option maxRecDepth 20000
namespace Go.Ev
open Go
section
variable {P : Program} {ty : TypeId → Option TyI} {ibs : FuncId → Bool} {call : Nat → List V → St → Option (V × St)} {nt : Nat}
variable {ops : Array Oper} {infs : List Inf} {cls : List Nat} {prs : List (Nat × Nat)} {order : List Nat} {s0 : St} {ρ0 : Rho} {w0 : World} {pre : List Nat} {rest : List HS} {e : E} {s : St} {listed : Array Bool} {ρ : Rho} {act : Act} {w : World}
theorem exec_half (C : Ctx P ty ibs call nt ops infs cls prs order) {pend : List Pd} {hh : Hf} (h : Inv nt ops infs cls order s0 ρ0 w0 pre rest e s pend (some hh) listed ρ act w)
    (hr : ∀ o, ops[hh.i]? = some o → ∀ ed ∈ o.after, Region.binds .any ed = true → listed.getD ed.on false = true) {K : Act → World → Prop} {Q : Exit → Act → World → Prop}
    (hK : ∀ act' w' ρ', Inv nt ops infs cls order s0 ρ0 w0 pre rest e s pend none (listed.setIfInBounds hh.i true) ρ' act' w' → K act' w') : wpOp P ops Q hh.i K act w := by
  obtain ⟨k1, k2, k3, k4, k5, k6, k7, k8, ⟨s2, k9, k9'⟩, k10, k11⟩ := h.hf hh rfl
  obtain ⟨hpre, hinf⟩ := h.hin hh rfl
  have hho : hh.i ∈ order := by rw [h.ord]; exact List.mem_append_left _ hpre
  have hlt : ∀ q ∈ pend, q.i ∈ order := fun q hq => by rw [h.ord]; exact List.mem_append_left _ (h.pin q hq)
  have unl : ∀ q ∈ pend, listed.getD q.i false = false := fun q hq => by
    have := (h.lst q.i (C.lt _ (hlt q hq))).2 (.inl ⟨q, hq, rfl⟩)
    rw [← getD_iff h.sz (C.lt _ (hlt q hq))]; exact this
  have htemps : ∀ t ∈ hh.a.ts, ∀ v, hh.e.get t = some v → VR ρ v (act.tmps.getD t undef) := by
    intro t ht v hv
    rcases k10 t ht with ⟨r, hr1, _, hr3, _⟩ | hh2
    · have := ready_cl h.dc (C.dep _ _ hr3) hr
      rw [unl r hr1] at this; cases this
    · exact hh2.2 v hv
  have hrel : Rel ρ hh.mid w := h.rel
  have hnown : hh.mid.nb = s.nb := h.nown
  refine st_wp C hinf k1 k2 k3 htemps k4 k5 k6 hrel k7 k8 k9 fun w' j1 j2 => hK act w' ρ ?_
  have hnp : ∀ p ∈ pend, p.i ≠ hh.i := by
    intro p hp e'
    have : infs[p.i]? = some hh.a := by rw [e']; exact hinf
    rw [h.inf p hp] at this
    simp only [Option.some.injEq] at this
    rcases h.i3 p hp with ⟨g1, _⟩ | ⟨_, g⟩
    · rw [this, k2] at g1; simp [gEv] at g1
    · rw [this, k1] at g; exact g
  have hnodup : (pre ++ opsOf rest).Nodup := by rw [← h.ord]; exact C.nodup
  obtain ⟨n1, n2, n3⟩ := List.nodup_append.1 hnodup
  refine ⟨j1.same k9', h.go.trans (j2.states hnown.symm (by rw [k9'.1])), h.fr, by simpa using h.sz, ?_, dc_set h.sz (C.lt _ hho) h.dc hr, h.ord, h.pin, (fun hh hhe => by cases hhe), h.nd, h.inf, h.i1, h.i2, h.i3, h.i4, h.i6, h.nids, (fun hh hhe => by cases hhe), (fun hh hhe => by cases hhe)⟩
  intro i hi
  rw [listed_set h.sz (C.lt _ hho)]
  by_cases him : i = hh.i
  · rw [if_pos him]
    simp only [Bool.true_eq_false, false_iff, not_or, not_exists, not_and]
    exact ⟨fun q hq e' => hnp q hq (e'.trans him), (fun hh hhe => by cases hhe), fun hin => n3 hh.i hpre i hin him.symm⟩
  · rw [if_neg him, h.lst i hi]
    constructor
    · rintro (k | ⟨h2, k, k'⟩ | k)
      · exact .inl k
      · simp only [Option.some.injEq] at k; subst k; exact absurd k'.symm him
      · exact .inr (.inr k)
    · rintro (k | ⟨h2, k, k'⟩ | k)
      · exact .inl k
      · cases k
      · exact .inr (.inr k)
theorem exec_e2 (C : Ctx P ty ibs call nt ops infs cls prs order) {i j k k' : Nat} (hkk : (k = i ∧ k' = j) ∨ (k = j ∧ k' = i)) {l : List HS} {pend : List Pd} (h : Inv nt ops infs cls order s0 ρ0 w0 pre (.e2 i j :: l) e s pend none listed ρ act w)
    (hra : raOk infs cls i j pre = true) (haft : ∀ q ∈ opsOf l, bt cls q i = true ∧ bt cls q j = true) {a a' : Inf} (ha : infs[k]? = some a) (ha' : infs[k']? = some a') {n n' : Nat} {oa ob oa' ob' : O} (hx : a.x = .m (.st n oa ob)) (hg : a.g = none) (hdst : a.o.dst = none)
    (hx' : a'.x = .m (.st n' oa' ob')) (hg' : a'.g = none) (hdst' : a'.o.dst = none) {x o x' o' : Nat} {m m' : List S} (h1 : os e oa = .p x o) (h2 : cellsOf (ov e ob) = some m) (hn : m.length = n) (h1' : os e oa' = .p x' o') (h2' : cellsOf (ov e ob') = some m') (hn' : m'.length = n')
    {σ σ1 s2 s' : St} (hσ : Rel ρ σ w) (hnb : σ.nb = s.nb) (hno : NO σ x o m.length) (hno' : NO σ x' o' m'.length) (hfit : ∀ b, σ.h.get x = some b → o + m.length ≤ b.c.length) (hfit' : ∀ b, σ.h.get x' = some b → o' + m'.length ≤ b.c.length)
    (hs1 : setc σ x o m = some σ1) (hs2 : setc σ1 x' o' m' = some s2) (hsame : Same s2 s')
    (hr : ∀ o, ops[k]? = some o → ∀ ed ∈ o.after, Region.binds .any ed = true → listed.getD ed.on false = true) {K : Act → World → Prop} {Q : Exit → Act → World → Prop}
    (hK : ∀ act' w' ρ' hh, Inv nt ops infs cls order s0 ρ0 w0 (pre ++ [i, j]) l e s' pend (some hh) (listed.setIfInBounds k true) ρ' act' w' → K act' w') : wpOp P ops Q k K act w := by
  have hord : order = pre ++ (i :: j :: opsOf l) := h.ord
  have hkin : k ∈ i :: j :: opsOf l ∧ k' ∈ i :: j :: opsOf l := by
    rcases hkk with ⟨rfl, rfl⟩ | ⟨rfl, rfl⟩ <;> exact ⟨by simp, by simp⟩
  have hko : k ∈ order := by rw [hord]; exact List.mem_append_right _ hkin.1
  have hko' : k' ∈ order := by rw [hord]; exact List.mem_append_right _ hkin.2
  have hlt : ∀ q ∈ pend, q.i ∈ order := fun q hq => by rw [h.ord]; exact List.mem_append_left _ (h.pin q hq)
  have unl : ∀ q ∈ pend, listed.getD q.i false = false := fun q hq => by
    have := (h.lst q.i (C.lt _ (hlt q hq))).2 (.inl ⟨q, hq, rfl⟩)
    rw [← getD_iff h.sz (C.lt _ (hlt q hq))]; exact this
  have notcl : ∀ q ∈ pend, bt cls k q.i = false := fun q hq => by
    cases hb : bt cls k q.i with
    | false => rfl
    | true =>
      have := ready_cl h.dc (C.dep _ _ hb) hr
      rw [unl q hq] at this; cases this
  have reads : ∀ q ∈ pend, ∀ (y : Nat) (b : Inf), y ∈ i :: j :: opsOf l → infs[y]? = some b → ∀ d, q.a.o.dst = some d → d ∈ b.ts → bt cls y q.i = true := by
    intro q hq y b hy hb d hd ht
    obtain ⟨a1, c1, g1, g2, g3, g4, g5, g6, g7, g8⟩ := pair_facts (C.split pre (i :: j :: opsOf l) hord q.i (h.pin q hq) y hy)
    rw [h.inf q hq] at g1
    rw [hb] at g2
    simp only [Option.some.injEq] at g1 g2
    subst g1 g2
    exact g7 d hd ht
  have htemps : ∀ t ∈ a.ts, ∀ v, e.get t = some v → VR ρ v (act.tmps.getD t undef) := fun t ht v hv =>
    h.i1 t v hv fun q hq hd => by
      have := reads q hq k a hkin.1 ha t hd ht
      rw [notcl q hq] at this; cases this
  have hnora : ∀ q ∈ pend, isRA q.a.x = false := by
    intro q hq
    cases hb : isRA q.a.x with
    | false => rfl
    | true =>
      unfold raOk at hra
      have := List.all_eq_true.1 hra q.i (h.pin q hq)
      rw [h.inf q hq] at this
      simp only [hb, Bool.not_true, Bool.false_or, Bool.and_eq_true] at this
      have hk : bt cls k q.i = true := by rcases hkk with ⟨rfl, _⟩ | ⟨rfl, _⟩; exact this.1; exact this.2
      rw [notcl q hq] at hk; cases hk
  obtain ⟨b1, g1, g2, g3, g4, g5⟩ := setc_get hs1
  have hfit1 : ∀ b, σ1.h.get x' = some b → o' + m'.length ≤ b.c.length := by
    intro b hb
    rw [g5] at hb
    split at hb
    · rename_i e'
      simp only [Option.some.injEq] at hb; subst hb
      show o' + m'.length ≤ (lput b1.c m o).length
      rw [lput_len (hfit b1 g1)]
      exact hfit' b1 (by rw [e']; exact g1)
    · exact hfit' b hb
  have hs'nb : s'.nb = s.nb := by rw [hsame.1, setc_nb hs2, setc_nb hs1, hnb]
  have hnodup : (pre ++ (i :: j :: opsOf l)).Nodup := by rw [← hord]; exact C.nodup
  obtain ⟨n1, n2, n3⟩ := List.nodup_append.1 hnodup
  obtain ⟨n4, n5⟩ := List.nodup_cons.1 n2
  obtain ⟨n6, n7⟩ := List.nodup_cons.1 n5
  have hij : i ≠ j := fun e' => n4 (by rw [e']; exact List.mem_cons_self ..)
  have hkk' : k ≠ k' := by rcases hkk with ⟨rfl, rfl⟩ | ⟨rfl, rfl⟩; exact hij; exact fun e' => hij e'.symm
  have hkl : k ∉ opsOf l := by
    rcases hkk with ⟨rfl, rfl⟩ | ⟨rfl, rfl⟩
    · exact fun hk => n4 (List.mem_cons_of_mem _ hk)
    · exact n6
  refine st_wp C ha hx hg hdst htemps h1 h2 hn hσ hno hfit hs1 fun w' j1 j2 => hK act w' ρ ⟨k', a', e, n', oa', ob', x', o', m', σ1⟩ ?_
  refine ⟨j1, ?_, h.fr, by simpa using h.sz, ?_, dc_set h.sz (C.lt _ hko) h.dc hr, by rw [hord]; simp, fun q hq => List.mem_append_left _ (h.pin q hq), ?_, h.nd, h.inf, h.i1, h.i2, ?_, h.i4, h.i6, h.nids, ?_, ?_⟩
  · exact h.go.trans (j2.states hnb.symm (by rw [hs'nb, setc_nb hs1, hnb]))
  · intro y hy
    rw [listed_set h.sz (C.lt _ hko)]
    by_cases hyk : y = k
    · rw [if_pos hyk]
      simp only [Bool.true_eq_false, false_iff, not_or, not_exists, not_and]
      refine ⟨fun q hq e' => n3 q.i (h.pin q hq) k hkin.1 (e'.trans hyk), fun hh hhe e' => ?_, fun hin => hkl (hyk ▸ hin)⟩
      simp only [Option.some.injEq] at hhe
      subst hhe
      exact hkk' (hyk.symm.trans e'.symm)
    · rw [if_neg hyk, h.lst y hy, opsOf_e2]
      constructor
      · rintro (q | ⟨hh, q, _⟩ | q)
        · exact .inl q
        · cases q
        · have : y = k' ∨ y ∈ opsOf l := by
            rcases hkk with ⟨rfl, rfl⟩ | ⟨rfl, rfl⟩
            · rcases List.mem_cons.1 q with e' | q
              · exact absurd e' hyk
              · exact List.mem_cons.1 q
            · rcases List.mem_cons.1 q with e' | q
              · exact .inl e'
              · rcases List.mem_cons.1 q with e' | q
                · exact absurd e' hyk
                · exact .inr q
          rcases this with e' | q
          · exact .inr (.inl ⟨_, rfl, e'.symm⟩)
          · exact .inr (.inr q)
      · rintro (q | ⟨hh, q, e'⟩ | q)
        · exact .inl q
        · simp only [Option.some.injEq] at q
          subst q
          refine .inr (.inr ?_)
          rw [← e']
          exact hkin.2
        · exact .inr (.inr (List.mem_cons_of_mem _ (List.mem_cons_of_mem _ q)))
  · intro hh hhe
    simp only [Option.some.injEq] at hhe
    subst hhe
    refine ⟨List.mem_append_right _ ?_, ha'⟩
    rcases hkk with ⟨_, rfl⟩ | ⟨_, rfl⟩ <;> simp
  · intro q hq
    rcases h.i3 q hq with c | ⟨c1, c2⟩
    · exact .inl c
    · refine .inr ⟨c1, ?_⟩
      have hq' := hnora q hq
      cases hqx : q.a.x with
      | w y => rw [hqx] at c2; exact c2
      | m y => rw [hqx] at c2; exact c2
      | r y => rw [hqx] at hq'; cases hq'
      | a y => rw [hqx] at hq'; cases hq'
  · intro hh hhe
    simp only [Option.some.injEq] at hhe
    subst hhe
    refine ⟨hx', hg', hdst', h1', h2', hn', hno'.setc hs1 hfit, hfit1, ⟨s2, hs2, hsame⟩, fun t ht => ?_, hnora⟩
    by_cases hex : ∃ q ∈ pend, q.a.o.dst = some t
    · obtain ⟨q, hq, hd⟩ := hex
      exact .inl ⟨q, hq, hd, reads q hq k' a' hkin.2 ha' t hd ht, h.i4 q hq t hd⟩
    · exact .inr ⟨fun q hq hd => absurd ⟨q, hq, hd⟩ hex, fun v hv => h.i1 t v hv fun q hq hd => hex ⟨q, hq, hd⟩⟩
  · intro hh hhe y hy
    simp only [Option.some.injEq] at hhe
    subst hhe
    rcases hkk with ⟨_, rfl⟩ | ⟨_, rfl⟩
    · exact (haft y hy).2
    · exact (haft y hy).1
end
end Go.Ev
end
section
set_option linter.unusedVariables false
set_option linter.unusedSimpArgs false
set_option maxRecDepth 20000
namespace Go.Ev
open Go
theorem nodup_len : ∀ {l : List Nat}, l.Nodup → ∀ {m : List Nat}, (∀ i ∈ l, i ∈ m) → l.length ≤ m.length
  | [], _, m, _ => Nat.zero_le _
  | x :: l, hn, m, h => by
    obtain ⟨h1, h2⟩ := List.nodup_cons.1 hn
    have hx : x ∈ m := h x (List.mem_cons_self ..)
    have h3 : l.length ≤ (m.erase x).length := nodup_len h2 fun i hi => by
      have hne : i ≠ x := fun e => h1 (e ▸ hi)
      exact (List.mem_erase_of_ne hne).2 (h i (List.mem_cons_of_mem _ hi))
    rw [List.length_erase_of_mem hx] at h3
    have : 0 < m.length := List.length_pos_of_mem hx
    simp only [List.length_cons]
    omega
theorem first_unlisted {listed : Array Bool} : ∀ (l : List Nat), (∃ i ∈ l, listed.getD i false = false) → ∃ l1 i l2, l = l1 ++ i :: l2 ∧ (∀ j ∈ l1, listed.getD j false = true) ∧ listed.getD i false = false
  | [], h => by obtain ⟨i, hi, _⟩ := h; simp at hi
  | x :: l, h => by
    cases hx : listed.getD x false with
    | false => exact ⟨[], x, l, rfl, fun j hj => by simp at hj, hx⟩
    | true =>
      obtain ⟨i, hi, hu⟩ := h
      rcases List.mem_cons.1 hi with e | hi
      · rw [e, hx] at hu; cases hu
      · obtain ⟨l1, k, l2, h1, h2, h3⟩ := first_unlisted l ⟨i, hi, hu⟩
        exact ⟨x :: l1, k, l2, by rw [h1]; rfl, fun j hj => by rcases List.mem_cons.1 hj with e | hj; rw [e]; exact hx; exact h2 j hj, h3⟩
section
variable {P : Program} {ty : TypeId → Option TyI} {ibs : FuncId → Bool} {call : Nat → List V → St → Option (V × St)} {nt : Nat}
variable {ops : Array Oper} {infs : List Inf} {cls : List Nat} {prs : List (Nat × Nat)} {order : List Nat} {s0 : St} {ρ0 : Rho} {w0 : World}
def Head (infs : List Inf) : List HS → Prop
  | [] => True
  | .ev i :: _ => ∃ a x, infs[i]? = some a ∧ a.x = .m x
  | .e2 _ _ :: _ => True
theorem norm (C : Ctx P ty ibs call nt ops infs cls prs order) : ∀ (rest : List HS) {pre : List Nat} {st : List Stp} {e ef : E} {s sf : St} {pend : List Pd} {listed : Array Bool} {ρ : Rho} {act : Act} {w : World},
    Inv nt ops infs cls order s0 ρ0 w0 pre rest e s pend none listed ρ act w → stepsOf infs cls pre rest = some st → reg call st e s = some (ef, sf) →
    ∃ rest' pre' st' e' s' pend', Inv nt ops infs cls order s0 ρ0 w0 pre' rest' e' s' pend' none listed ρ act w ∧ stepsOf infs cls pre' rest' = some st' ∧ reg call st' e' s' = some (ef, sf) ∧ pend'.length + (opsOf rest').length = pend.length + (opsOf rest).length ∧ Head infs rest'
  | [], pre, st, e, ef, s, sf, pend, listed, ρ, act, w, h, hst, hreg => ⟨[], pre, st, e, s, pend, h, hst, hreg, rfl, trivial⟩
  | .e2 i j :: l, pre, st, e, ef, s, sf, pend, listed, ρ, act, w, h, hst, hreg => ⟨_, pre, st, e, s, pend, h, hst, hreg, rfl, trivial⟩
  | .ev i :: l, pre, st, e, ef, s, sf, pend, listed, ρ, act, w, h, hst, hreg => by
    have hst' := hst
    unfold stepsOf at hst
    split at hst
    · rename_i a st1 ha hst1
      split at hst
      · rename_i x hx
        exact ⟨.ev i :: l, pre, st, e, s, pend, h, hst', hreg, rfl, ⟨a, x, ha, hx⟩⟩
      · rename_i x hnm
        simp only [Option.some.injEq] at hst; subst hst
        have hm : isM a.x = false := by
          cases hx : a.x with
          | m y => exact absurd hx (hnm y)
          | _ => rfl
        have hreg' : (match evG call e s a.o.dst a.g a.x with | some (e, s) => reg call st1 e s | none => none) = some (ef, sf) := hreg
        split at hreg'
        · rename_i e1 s1 hev
          obtain ⟨p, hp⟩ := pass C h ha hm hev
          obtain ⟨rest', pre', st', e', s', pend', k1, k2, k3, k4, k5⟩ := norm C l hp hst1 hreg'
          refine ⟨rest', pre', st', e', s', pend', k1, k2, k3, ?_, k5⟩
          rw [k4, opsOf_ev]; simp; omega
        · simp at hreg'
    · simp at hst
theorem finish {st : List Stp} {e ef : E} {s sf : St} {listed : Array Bool} {ρ : Rho} {act : Act} {w : World} {pre : List Nat} (h : Inv nt ops infs cls order s0 ρ0 w0 pre [] e s [] none listed ρ act w) (hst : stepsOf infs cls pre [] = some st) (hreg : reg call st e s = some (ef, sf))
    {Q : Exit → Act → World → Prop} (hQ : ∀ a' w' ρ', ER ρ' ef a' → Rel ρ' sf w' → Go s0 ρ0 w0 sf ρ' w' → FrOk nt a' → Q .normal a' w') : Q .normal act w := by
  simp only [stepsOf, Option.some.injEq] at hst; subst hst
  have : some (e, s) = some (ef, sf) := hreg
  simp only [Option.some.injEq, Prod.mk.injEq] at this
  obtain ⟨rfl, rfl⟩ := this
  exact hQ act w ρ (fun t v hv => h.i1 t v hv fun p hp => by simp at hp) h.rel h.go h.fr
theorem progress (C : Ctx P ty ibs call nt ops infs cls prs order) {rest : List HS} {pre : List Nat} {e : E} {s : St} {pend : List Pd} {half : Option Hf} {listed : Array Bool} {ρ : Rho} {act : Act} {w : World} (h : Inv nt ops infs cls order s0 ρ0 w0 pre rest e s pend half listed ρ act w)
    (hready : Region.ready .any ops listed = []) : pend = [] ∧ half = none ∧ opsOf rest = [] := by
  have hall : ¬ ∃ i ∈ order, listed.getD i false = false := by
    intro hex
    obtain ⟨l1, i, l2, h1, h2, h3⟩ := first_unlisted order hex
    have hio : i ∈ order := by rw [h1]; simp
    have hin : i < ops.size := C.lt i hio
    obtain ⟨a, ha⟩ := C.all i hio
    have hop := (C.inf i a ha).1
    have : i ∈ Region.ready .any ops listed := by
      rw [mem_ready]
      refine ⟨by rw [getD_iff h.sz hin]; exact h3, a.o, hop, fun ed hed hb => ?_⟩
      exact h2 _ (C.topo l1 i l2 h1 a ha ed hed hb)
    rw [hready] at this
    simp at this
  have hun : ∀ i ∈ order, listed.getD i false = false → False := fun i hi hu => hall ⟨i, hi, hu⟩
  have key : ∀ i ∈ order, ((∃ p ∈ pend, p.i = i) ∨ (∃ hh, half = some hh ∧ hh.i = i) ∨ i ∈ opsOf rest) → False := fun i hi hh => by
    have := (h.lst i (C.lt i hi)).2 hh
    rw [getD_iff h.sz (C.lt i hi)] at this
    exact hun i hi this
  refine ⟨?_, ?_, ?_⟩
  · cases pend with
    | nil => rfl
    | cons p l => exact (key p.i (by rw [h.ord]; exact List.mem_append_left _ (h.pin p (List.mem_cons_self ..))) (.inl ⟨p, List.mem_cons_self .., rfl⟩)).elim
  · cases half with
    | none => rfl
    | some hh => exact (key hh.i (by rw [h.ord]; exact List.mem_append_left _ (h.hin hh rfl).1) (.inr (.inl ⟨hh, rfl, rfl⟩))).elim
  · cases hr : opsOf rest with
    | nil => rfl
    | cons i l => exact (key i (by rw [h.ord, hr]; simp) (.inr (.inr (by rw [hr]; exact List.mem_cons_self ..)))).elim
theorem opsOf_nil {infs : List Inf} {rest : List HS} (h : opsOf rest = []) : rest = [] := by
  cases rest with
  | nil => rfl
  | cons x l => cases x <;> simp [opsOf] at h
theorem main (C : Ctx P ty ibs call nt ops infs cls prs order) {ef : E} {sf : St} {Q : Exit → Act → World → Prop} (hQ : ∀ a' w' ρ', ER ρ' ef a' → Rel ρ' sf w' → Go s0 ρ0 w0 sf ρ' w' → FrOk nt a' → Q .normal a' w') :
    ∀ (fuel : Nat) (rest : List HS) (pre : List Nat) (st : List Stp) (e : E) (s : St) (pend : List Pd) (half : Option Hf) (listed : Array Bool) (ρ : Rho) (act : Act) (w : World),
    Inv nt ops infs cls order s0 ρ0 w0 pre rest e s pend half listed ρ act w → stepsOf infs cls pre rest = some st → reg call st e s = some (ef, sf) → pend.length + (opsOf rest).length + (if half.isSome then 1 else 0) ≤ fuel →
    wpAny P .any ops Q fuel listed act w := by
  have done : ∀ (rest : List HS) (pre : List Nat) (st : List Stp) (e : E) (s : St) (pend : List Pd) (half : Option Hf) (listed : Array Bool) (ρ : Rho) (act : Act) (w : World),
      Inv nt ops infs cls order s0 ρ0 w0 pre rest e s pend half listed ρ act w → stepsOf infs cls pre rest = some st → reg call st e s = some (ef, sf) → pend = [] ∧ half = none ∧ opsOf rest = [] → Q .normal act w := by
    rintro rest pre st e s pend half listed ρ act w h hst hreg ⟨rfl, rfl, hr⟩
    have := opsOf_nil (infs := infs) hr
    subst this
    exact finish h hst hreg hQ
  intro fuel
  induction fuel with
  | zero =>
    intro rest pre st e s pend half listed ρ act w h hst hreg hle
    have h1 : pend = [] := List.eq_nil_of_length_eq_zero (by omega)
    have h2 : half = none := by cases half with | none => rfl | some _ => simp at hle
    have h3 : opsOf rest = [] := List.eq_nil_of_length_eq_zero (by omega)
    refine ⟨?_, done rest pre st e s pend half listed ρ act w h hst hreg ⟨h1, h2, h3⟩⟩
    cases hr : Region.ready .any ops listed with
    | nil => rfl
    | cons i l =>
      have hi : i ∈ Region.ready .any ops listed := by rw [hr]; exact List.mem_cons_self ..
      rw [mem_ready] at hi
      obtain ⟨hu, o, ho, _⟩ := hi
      have hin : i < ops.size := (Array.getElem?_eq_some_iff.1 ho).1
      rcases (h.lst i hin).1 hu with ⟨p, hp, _⟩ | ⟨hh, hp, _⟩ | hp
      · rw [h1] at hp; simp at hp
      · rw [h2] at hp; cases hp
      · rw [h3] at hp; simp at hp
  | succ fuel ih =>
    intro rest pre st e s pend half listed ρ act w h hst hreg hle
    refine ⟨fun hr => done rest pre st e s pend half listed ρ act w h hst hreg (progress C h hr), fun i hi => ?_⟩
    rw [mem_ready] at hi
    obtain ⟨hu, o, ho, hrd⟩ := hi
    have hin : i < ops.size := (Array.getElem?_eq_some_iff.1 ho).1
    have hr : ∀ o, ops[i]? = some o → ∀ ed ∈ o.after, Region.binds .any ed = true → listed.getD ed.on false = true := by
      intro o' ho'; rw [ho] at ho'; simp only [Option.some.injEq] at ho'; subst ho'; exact hrd
    have exP : ∀ {rest : List HS} {pre : List Nat} {st : List Stp} {e : E} {s : St} {pend : List Pd} {half : Option Hf}, Inv nt ops infs cls order s0 ρ0 w0 pre rest e s pend half listed ρ act w → stepsOf infs cls pre rest = some st → reg call st e s = some (ef, sf) →
        pend.length + (opsOf rest).length + (if half.isSome then 1 else 0) ≤ fuel + 1 → (∃ p ∈ pend, p.i = i) → wpOp P ops Q i (wpAny P .any ops Q fuel (listed.setIfInBounds i true)) act w := by
      rintro rest pre st e s pend half h hst hreg hle ⟨p, hp, rfl⟩
      obtain ⟨l1, l2, rfl⟩ := List.append_of_mem hp
      refine exec_pd C h hr fun act' w' ρ' h' => ih rest pre st e s (l1 ++ l2) half _ ρ' act' w' h' hst hreg ?_
      simp only [List.length_append, List.length_cons] at hle ⊢
      omega
    cases half with
    | some hh =>
      rcases (h.lst i hin).1 hu with hp | ⟨hh', hp, rfl⟩ | hp
      · exact exP h hst hreg hle hp
      · simp only [Option.some.injEq] at hp; subst hp
        refine exec_half C h hr fun act' w' ρ' h' => ih rest pre st e s pend none _ ρ' act' w' h' hst hreg ?_
        simp at hle ⊢; omega
      · have hb := h.hp hh rfl i hp
        have := ready_cl h.dc (C.dep _ _ hb) hr
        have hho : hh.i ∈ order := by rw [h.ord]; exact List.mem_append_left _ (h.hin hh rfl).1
        have hun := (h.lst hh.i (C.lt _ hho)).2 (.inr (.inl ⟨hh, rfl, rfl⟩))
        rw [getD_iff h.sz (C.lt _ hho), this] at hun; cases hun
    | none =>
      obtain ⟨rest, pre, st, e, s, pend, h, hst, hreg, hlen, hhead⟩ := norm C rest h hst hreg
      have hle : pend.length + (opsOf rest).length + 0 ≤ fuel + 1 := by rw [hlen]; simpa using hle
      rcases (h.lst i hin).1 hu with hp | ⟨hh', hp, _⟩ | hp
      · exact exP h hst hreg (by simpa using hle) hp
      · cases hp
      · cases rest with
        | nil => simp [opsOf] at hp
        | cons x l =>
          cases x with
          | ev m =>
            obtain ⟨a, x, ha, hx⟩ := hhead
            unfold stepsOf at hst
            split at hst
            · rename_i a1 st1 ha1 hst1
              rw [ha] at ha1
              simp only [Option.some.injEq] at ha1; subst ha1
              rw [hx] at hst
              simp only at hst
              split at hst
              · rename_i haft
                simp only [Option.some.injEq] at hst; subst hst
                have hmo : m ∈ order := by rw [h.ord, opsOf_ev]; simp
                have him : i = m := by
                  rw [opsOf_ev] at hp
                  rcases List.mem_cons.1 hp with e' | hp
                  · exact e'
                  · have hb := List.all_eq_true.1 haft i hp
                    have := ready_cl h.dc (C.dep _ _ hb) hr
                    have hun := (h.lst m (C.lt _ hmo)).2 (.inr (.inr (by rw [opsOf_ev]; exact List.mem_cons_self ..)))
                    rw [getD_iff h.sz (C.lt _ hmo), this] at hun; cases hun
                subst him
                have hreg' : (match (match evG call e s a.o.dst a.g (.m x) with
                    | some (e, s) => bif chkR e s (rsOf infs cls i pre) && chkA e s (asOf infs cls i pre) then some (e, s) else none
                    | none => none) with | some (e, s) => reg call st1 e s | none => none) = some (ef, sf) := hreg
                split at hreg'
                · rename_i e1 s1 hst2
                  split at hst2
                  · rename_i e2 s2 hev
                    obtain ⟨hchk, hst2⟩ := cond_some hst2
                    simp only [Option.some.injEq, Prod.mk.injEq] at hst2
                    obtain ⟨rfl, rfl⟩ := hst2
                    obtain ⟨hR, hA⟩ := (Bool.and_eq_true _ _).mp hchk
                    refine exec_m C h ha hx hr hev hR hA fun act' w' ρ' h' => ih l (pre ++ [i]) st1 _ _ pend none _ ρ' act' w' h' hst1 hreg' ?_
                    rw [opsOf_ev] at hle
                    simp at hle ⊢; omega
                  · simp at hst2
                · simp at hreg'
              · simp at hst
            · simp at hst
          | e2 k1 k2 =>
            unfold stepsOf at hst
            split at hst
            · rename_i a c st1 ha hc hst1
              split at hst
              · rename_i n₁ a₁ v₁ n₂ a₂ v₂ hax hag had hcx hcg hcd
                split at hst
                · rename_i hcond
                  simp only [Option.some.injEq] at hst; subst hst
                  obtain ⟨hra, haft'⟩ := (Bool.and_eq_true _ _).mp hcond
                  have haft : ∀ q ∈ opsOf l, bt cls q k1 = true ∧ bt cls q k2 = true := fun q hq => by
                    have := List.all_eq_true.1 haft' q hq
                    exact (Bool.and_eq_true _ _).mp this
                  have hk1o : k1 ∈ order := by rw [h.ord, opsOf_e2]; simp
                  have hi12 : i = k1 ∨ i = k2 := by
                    rw [opsOf_e2] at hp
                    rcases List.mem_cons.1 hp with e' | hp
                    · exact .inl e'
                    · rcases List.mem_cons.1 hp with e' | hp
                      · exact .inr e'
                      · have hb := (haft i hp).1
                        have := ready_cl h.dc (C.dep _ _ hb) hr
                        have hun := (h.lst k1 (C.lt _ hk1o)).2 (.inr (.inr (by rw [opsOf_e2]; exact List.mem_cons_self ..)))
                        rw [getD_iff h.sz (C.lt _ hk1o), this] at hun; cases hun
                  have hreg' : (match stp call e s (.e2 n₁ a₁ v₁ n₂ a₂ v₂) with | some (e, s) => reg call st1 e s | none => none) = some (ef, sf) := hreg
                  split at hreg'
                  · rename_i e' s' hst2
                    simp only [stp] at hst2
                    split at hst2
                    · rename_i x₁ o₁ l₁ x₂ o₂ l₂ g1 g2 g3 g4
                      obtain ⟨hchk, hst2⟩ := cond_some hst2
                      obtain ⟨hchk, hl2⟩ := (Bool.and_eq_true _ _).mp hchk
                      obtain ⟨hdis, hl1⟩ := (Bool.and_eq_true _ _).mp hchk
                      have hl1 : l₁.length = n₁ := by have := Nat.eq_of_beq_eq_true hl1; rw [llen_eq] at this; exact this
                      have hl2 : l₂.length = n₂ := by have := Nat.eq_of_beq_eq_true hl2; rw [llen_eq] at this; exact this
                      have hdis : x₁ ≠ x₂ ∨ o₁ + l₁.length ≤ o₂ ∨ o₂ + l₂.length ≤ o₁ := by
                        rw [hl1, hl2]
                        rcases (Bool.or_eq_true _ _).mp hdis with hd | hd
                        · rcases (Bool.or_eq_true _ _).mp hd with hd | hd
                          · left; intro e'; rw [e'] at hd; simp at hd
                          · exact .inr (.inl (Nat.le_of_ble_eq_true hd))
                        · exact .inr (.inr (Nat.le_of_ble_eq_true hd))
                      split at hst2
                      · simp at hst2
                      · rename_i sp1 hsp1
                        split at hst2
                        · simp at hst2
                        · rename_i sp2 hsp2
                          split at hst2
                          · simp at hst2
                          · rename_i sq1 hsq1
                            split at hst2
                            · simp at hst2
                            · rename_i sq2 hsq2
                              simp only [Option.some.injEq, Prod.mk.injEq] at hst2
                              obtain ⟨rfl, rfl⟩ := hst2
                              have hrel : Rel ρ s w := h.rel
                              rw [← hl1] at hsp1
                              rw [← hl2] at hsp2
                              obtain ⟨p1, p2, p3, p4, ⟨b1, p5, p6, p7⟩, p8⟩ := prep_spec hrel hsp1
                              obtain ⟨q1, q2, q3, q4, ⟨b2, q5, q6, q7⟩, q8⟩ := prep_spec p1 hsp2
                              have hnb : sp2.nb = s.nb := q3.trans p3
                              have hno1 : NO sp2 x₁ o₁ l₁.length := p2.mono q8
                              have hf1 : ∀ b, sp2.h.get x₁ = some b → o₁ + l₁.length ≤ b.c.length := fun b hb => by
                                have := q8 _ _ hb
                                rw [p5] at this; simp only [Option.some.injEq] at this; subst this; exact p7
                              have hf2 : ∀ b, sp2.h.get x₂ = some b → o₂ + l₂.length ≤ b.c.length := fun b hb => by
                                rw [q5] at hb; simp only [Option.some.injEq] at hb; subst hb; exact q7
                              have hlen' : pend.length + (opsOf l).length + 1 ≤ fuel := by
                                rw [opsOf_e2] at hle
                                simp only [List.length_cons] at hle
                                omega
                              rcases hi12 with rfl | rfl
                              · exact exec_e2 C (.inl ⟨rfl, rfl⟩) h hra haft ha hc hax hag had hcx hcg hcd g1 g2 hl1 g3 g4 hl2 q1 hnb hno1 q2 hf1 hf2 hsq1 hsq2 ⟨rfl, rfl, fun _ => rfl, fun _ => rfl⟩ hr
                                  fun act' w' ρ' hh h' => ih l _ st1 _ _ pend (some hh) _ ρ' act' w' h' hst1 hreg' (by simpa using hlen')
                              · obtain ⟨sc, sd, r1, r2, r3⟩ := setc_comm hsq1 hsq2 hf1 hf2 hdis
                                exact exec_e2 C (.inr ⟨rfl, rfl⟩) h hra haft hc ha hcx hcg hcd hax hag had g3 g4 hl2 g1 g2 hl1 q1 hnb q2 hno1 hf2 hf1 r1 r2 r3 hr
                                  fun act' w' ρ' hh h' => ih l _ st1 _ _ pend (some hh) _ ρ' act' w' h' hst1 hreg' (by simpa using hlen')
                    · simp at hst2
                  · simp at hreg'
                · simp at hst
              · simp at hst
            · simp at hst
theorem ctx_of (hty : TyOk P ty) (hib : IbsOk P ibs) (hcall : CallOk P call) {h : List HS} (hi : infsOf ty ibs nt ops ops.toList = some infs)
    (hc : (permOk ops.size (opsOf h) && pairsOk (pairOk infs (clsL ops.toList []) (prsOf h)) (opsOf h) && (opsOf h).all (selfOk infs (clsL ops.toList [])) && topoOk infs [] (opsOf h)) = true) :
    Ctx P ty ibs call nt ops infs (clsL ops.toList []) (prsOf h) (opsOf h) := by
  obtain ⟨hc, h4⟩ := (Bool.and_eq_true _ _).mp hc
  obtain ⟨hc, h3⟩ := (Bool.and_eq_true _ _).mp hc
  obtain ⟨h1, h2⟩ := (Bool.and_eq_true _ _).mp hc
  obtain ⟨m1, m2⟩ := perm_facts h1
  refine ⟨hty, hib, hcall, fun i a ha => ?_, m1, m2, nodup_of (fun i j hp => ?_) h2, fun i hi j hj hne => pairs_any h2 i hi j hj hne, fun pre rest e i hi j hj => pairs_mem h2 e i hi j hj, fun i hi => List.all_eq_true.1 h3 i hi, fun i j hb => bt_dep hb, fun pre i rest e a ha ed hed hb => ?_, fun i hi => ?_⟩
  · obtain ⟨k1, k2, k3, k4⟩ := infsOf_get hi i a ha
    exact ⟨by simpa using k1, k2, k3, k4⟩
  · obtain ⟨_, _, _, _, hne, _⟩ := pair_facts hp
    exact hne
  · simpa using topo_facts h4 e a ha ed hed hb
  · obtain ⟨a, ha, _⟩ := self_facts (List.all_eq_true.1 h3 i hi)
    exact ⟨a, ha⟩
theorem draw_ok (hm : P.follows .mixedOrders = true) (hty : TyOk P ty) (hib : IbsOk P ibs) (hcall : CallOk P call) : DrawOk P call nt (cDraw ty ibs nt) := by
  intro id ops x l hl e e' s s' ρ a w Q he hr hf hreg hQ
  unfold cDraw at hl
  split at hl
  · simp at hl
  · rename_i infs hi
    simp only at hl
    split at hl
    · rename_i hc
      have C := ctx_of hty hib hcall hi hc
      have hd : Rel ρ s { w with drawn := w.drawn + 1 } := hr.drew
      have hg : Go s ρ w s ρ { w with drawn := w.drawn + 1 } := (Go.refl s ρ w).drew
      refine wp_region_any hm ?_
      refine main (s0 := s) (ρ0 := ρ) (w0 := w) C hQ ops.size x [] l e s [] none _ ρ a _ ⟨hd, hg, hf, by simp, ?_, ?_, rfl, ?_, ?_, ?_, ?_, ?_, ?_, ?_, ?_, ?_, ?_, ?_, ?_⟩ hl hreg ?_
      · intro i hi'
        simp only [Array.getD_eq_getD_getElem?, Array.getElem?_replicate, hi', if_true, Option.getD_some, true_iff]
        exact .inr (.inr (C.mem i hi'))
      · intro i o ed h1
        simp only [Array.getD_eq_getD_getElem?, Array.getElem?_replicate] at h1
        split at h1 <;> simp at h1
      · intro p hp; simp at hp
      · intro hh hhe; cases hhe
      · simp
      · intro p hp; simp at hp
      · intro t v hv _; exact he t v hv
      · intro p hp; simp at hp
      · intro p hp; simp at hp
      · intro p hp; simp at hp
      · intro p hp; simp at hp
      · intro p hp; simp at hp
      · intro hh hhe; cases hhe
      · intro hh hhe; cases hhe
      · have : (opsOf x).length ≤ ops.size := by
          have := nodup_len C.nodup (m := List.range ops.size) fun i hi => List.mem_range.2 (C.lt i hi)
          simpa using this
        simpa using this
    · simp at hl
end
end Go.Ev
end
section
set_option linter.unusedVariables false
set_option linter.unusedSimpArgs false
namespace Go.Ev
open Go
deriving instance DecidableEq for S
mutual
def decV : (a b : V) → Decidable (a = b)
  | .o, .o => isTrue rfl
  | .c a, .c b => if h : a = b then isTrue (by rw [h]) else isFalse (by simp [h])
  | .a a, .a b => if h : a = b then isTrue (by rw [h]) else isFalse (by simp [h])
  | .t a, .t b => match decVs a b with | isTrue h => isTrue (by rw [h]) | isFalse h => isFalse (by simp [h])
  | .o, .c _ => isFalse (by simp) | .o, .a _ => isFalse (by simp) | .o, .t _ => isFalse (by simp)
  | .c _, .o => isFalse (by simp) | .c _, .a _ => isFalse (by simp) | .c _, .t _ => isFalse (by simp)
  | .a _, .o => isFalse (by simp) | .a _, .c _ => isFalse (by simp) | .a _, .t _ => isFalse (by simp)
  | .t _, .o => isFalse (by simp) | .t _, .c _ => isFalse (by simp) | .t _, .a _ => isFalse (by simp)
def decVs : (a b : List V) → Decidable (a = b)
  | [], [] => isTrue rfl
  | [], _ :: _ => isFalse (by simp)
  | _ :: _, [] => isFalse (by simp)
  | a :: l, b :: m => match decV a b with
    | isTrue h1 => match decVs l m with | isTrue h2 => isTrue (by rw [h1, h2]) | isFalse h2 => isFalse (by simp [h2])
    | isFalse h1 => isFalse (by simp [h1])
end
instance : DecidableEq V := decV
deriving instance DecidableEq for O
deriving instance DecidableEq for W
deriving instance DecidableEq for A
deriving instance DecidableEq for M
deriving instance DecidableEq for R
deriving instance DecidableEq for MO
deriving instance DecidableEq for Stp
deriving instance DecidableEq for MC
deriving instance DecidableEq for MRes
deriving instance DecidableEq for MFn
deriving instance DecidableEq for HS
end Go.Ev
end
section
set_option linter.unusedVariables false
namespace Go.Ev
open Go Go.Proofs.Tryz
noncomputable def ty : TypeId → Option TyI := tyI prog
theorem tyOk : TyOk prog ty := fun _ _ h => h
noncomputable def ibs (f : FuncId) : Bool := false
theorem ibsOk : IbsOk prog ibs := by
  intro f hf
  cases hf
theorem follows : prog.follows .mixedOrders = true := by kernel_rfl
theorem lf_ok {P : Nat → MFn → Prop} : ∀ g f, (T.lf : T MFn).get g = some f → P g f := fun g f h => by rw [T.get_lf] at h; cases h
theorem no_ok {P : MFn → Prop} : ∀ f, (none : Option MFn) = some f → P f := fun f h => by cases h
theorem nd_ok {P : Nat → MFn → Prop} {l r : T MFn} {v : Option MFn} (hl : ∀ g f, l.get g = some f → P (2 * g + 1) f) (hv : ∀ f, v = some f → P 0 f) (hr : ∀ g f, r.get g = some f → P (2 * g + 2) f) :
    ∀ g f, (T.nd l v r).get g = some f → P g f := by
  intro g f h
  rw [T.get_nd] at h
  by_cases h0 : g = 0
  · subst h0; exact hv f (by simpa using h)
  · have e0 : (g == 0) = false := by simpa using h0
    rw [e0] at h
    by_cases h1 : g % 2 = 0
    · have e1 : (g % 2 == 0) = true := by simpa using h1
      rw [e1] at h
      have := hr _ f h
      rw [show 2 * (g / 2 - 1) + 2 = g by omega] at this
      exact this
    · have e1 : (g % 2 == 0) = false := by simpa using h1
      rw [e1] at h
      have := hl _ f h
      rw [show 2 * (g / 2) + 1 = g by omega] at this
      exact this
noncomputable def Q (h : List (List HS)) (f : Func) : Option MFn := cFn ty ibs (cDraw ty ibs) h f
theorem q_ok {g : Nat} {h : List (List HS)} {f : Func} (hf : prog.funcs[g]? = some f) : ∀ m, Q h f = some m → ∃ fn h, prog.funcs[g]? = some fn ∧ cFn ty ibs (cDraw ty ibs) h fn = some m := fun m e => ⟨f, h, hf, e⟩
def hN : Nat → List (List HS)
  | 0 => []
  | n + 1 => [] :: hN n
end Go.Ev
end
