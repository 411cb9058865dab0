/-
Regions that draw their order: the operation that is next to write, pairs of stores, what is passed; and all together.
-/
import Derived.Test.YtjidglpldjcmdaaGreatEvE
set_option linter.unusedVariables false
set_option linter.unusedSimpArgs false
set_option maxRecDepth 20000
namespace Go.Ev
open Go

theorem capsEq_eq : ∀ {l m : List (Nat × Nat)}, capsEq l m = true → l = m
  | [], [], _ => rfl
  | [], _ :: _, h => by cases h
  | _ :: _, [], h => by cases h
  | x :: l, y :: m, h => by
    have h' : Bool.rec (motive := fun _ => Bool) false (capsEq l m) (Nat.beq x.1 y.1 && Nat.beq x.2 y.2) = true := h
    cases hb : (Nat.beq x.1 y.1 && Nat.beq x.2 y.2) with
    | false => rw [hb] at h'; cases h'
    | true =>
      rw [hb] at h'
      simp only [Bool.and_eq_true, nbeq, beq_iff_eq] at hb
      rw [capsEq_eq (l := l) (m := m) h']
      congr 1
      exact Prod.ext hb.1 hb.2
theorem sEq_eq {a b : S} (h : sEq a b = true) : a = b := by
  cases a <;> cases b <;> simp only [sEq, Bool.false_eq_true] at h <;> try (first | rfl | cases h)
  case b.b x y => cases x <;> cases y <;> first | rfl | cases h
  case i.i x y => rw [ieq_eq] at h; simp only [beq_iff_eq] at h; rw [h]
  case j.j k x k' y =>
    rw [ieq_eq, Bool.and_eq_true] at h
    rw [kbeq_eq h.1, beq_iff_eq.1 h.2]
  case s.s x y => rw [seq_eq] at h; simp only [beq_iff_eq] at h; rw [h]
  case p.p x y x' y' =>
    simp only [Bool.and_eq_true, nbeq, beq_iff_eq] at h
    rw [h.1, h.2]
  case l.l a1 a2 a3 a4 a5 b1 b2 b3 b4 b5 =>
    simp only [Bool.and_eq_true, nbeq, beq_iff_eq] at h
    obtain ⟨⟨⟨⟨h1, h2⟩, h3⟩, h4⟩, h5⟩ := h
    subst h1 h2 h3 h4
    cases a5 <;> cases b5 <;> first | rfl | cases h5
  case f.f g l g' l' =>
    simp only [Bool.and_eq_true, nbeq, beq_iff_eq] at h
    rw [h.1, capsEq_eq h.2]
theorem lEq_eq : ∀ {l m : List S}, lEq l m = true → l = m
  | [], [], _ => rfl
  | [], _ :: _, h => by cases h
  | _ :: _, [], h => by cases h
  | x :: l, y :: m, h => by
    have h' : Bool.rec (motive := fun _ => Bool) false (lEq l m) (sEq x y) = true := h
    cases hb : sEq x y with
    | false => rw [hb] at h'; cases h'
    | true =>
      rw [hb] at h'
      rw [lEq_eq (l := l) (m := m) h', sEq_eq hb]
theorem vEq_eq {a b : V} (h : vEq a b = true) : a = b := by
  cases a <;> cases b <;> simp only [vEq, Bool.false_eq_true] at h
  · rw [sEq_eq h]
  · rw [lEq_eq h]

theorem chkR_spec {e : E} {s : St} : ∀ {l : List (Nat × R)}, chkR e s l = true → ∀ p ∈ l, ov e (.t p.1) = .t [] ∨ rv e s p.2 = some (ov e (.t p.1))
  | [], _, p, hp => by simp at hp
  | q :: l, h, p, hp => by
    have h' : (match ov e (.t q.1) with
      | .t [] => chkR e s l
      | v => match rv e s q.2 with | some u => vEq v u && chkR e s l | none => false) = true := h
    split at h'
    · rename_i hv
      rcases List.mem_cons.1 hp with rfl | hp
      · exact .inl hv
      · exact chkR_spec h' p hp
    · rename_i hv
      split at h'
      · rename_i u hu
        simp only [Bool.and_eq_true] at h'
        rcases List.mem_cons.1 hp with rfl | hp
        · exact .inr (by rw [hu, vEq_eq h'.1])
        · exact chkR_spec h'.2 p hp
      · cases h'
theorem chkA_spec {e : E} {s : St} : ∀ {l : List (Nat × A)}, chkA e s l = true → ∀ p ∈ l, ov e (.t p.1) = .t [] ∨ ∃ m f x, av e p.2 = some (m, f) ∧ blkOf (ov e (.t p.1)) = some x ∧ s.h.get x = some ⟨m, 0, 0⟩
  | [], _, p, hp => by simp at hp
  | q :: l, h, p, hp => by
    have h' : (match ov e (.t q.1) with
      | .t [] => chkA e s l
      | v => match av e q.2, blkOf v with
        | some (m, _), some x => match s.h.get x with
          | some b => lEq b.c m && Nat.beq b.fam 0 && Nat.beq b.d 0 && chkA e s l
          | none => false
        | _, _ => false) = true := h
    split at h'
    · rename_i hv
      rcases List.mem_cons.1 hp with rfl | hp
      · exact .inl hv
      · exact chkA_spec h' p hp
    · rename_i hv
      split at h'
      · rename_i m f x h1 h2
        split at h'
        · rename_i b hb
          simp only [Bool.and_eq_true, nbeq, beq_iff_eq] at h'
          obtain ⟨⟨⟨g1, g2⟩, g3⟩, g4⟩ := h'
          rcases List.mem_cons.1 hp with rfl | hp
          · refine .inr ⟨m, f, x, h1, h2, ?_⟩
            rw [hb]
            obtain ⟨bc, bf, bd⟩ := b
            simp only at g1 g2 g3
            rw [lEq_eq g1, g2, g3]
          · exact chkA_spec g4 p hp
        · cases h'
      · cases h'
theorem av_blk {e : E} {x : A} {l : List S} {f : Nat → V} (h : av e x = some (l, f)) (n : Nat) : blkOf (f n) = some n := by
  unfold av at h
  split at h
  · simp only [Option.some.injEq, Prod.mk.injEq] at h; rw [← h.2]; rfl
  · split at h
    · simp only [Option.some.injEq, Prod.mk.injEq] at h; rw [← h.2]; rfl
    · simp at h
  · split at h
    · simp only [Option.some.injEq, Prod.mk.injEq] at h; rw [← h.2]; rfl
    · simp at h
  · split at h
    · obtain ⟨_, h⟩ := cond_some h
      simp only [Option.some.injEq, Prod.mk.injEq] at h; rw [← h.2]; rfl
    · simp at h
theorem rv_v {e : E} {s : St} {x : R} {v : V} (h : rv e s x = some v) : v ≠ .t [] := by
  unfold rv at h
  split at h
  · unfold ldv at h
    split at h
    · split at h
      · split at h
        · split at h
          · simp only [Option.some.injEq] at h; rw [← h]; simp
          · simp at h
        · simp at h
      · split at h
        · simp only [Option.some.injEq] at h; rw [← h]; simp
        · simp at h
    · simp at h
  · split at h
    · simp only [Option.some.injEq] at h; rw [← h]; simp
    · replace h := cond_some h
      obtain ⟨_, h⟩ := h
      split at h
      · split at h
        · simp only [Option.some.injEq] at h; rw [← h]; simp
        · simp at h
      · simp at h
    · simp at h

theorem mem_rsOf {infs : List Inf} {cls : List Nat} {m : Nat} : ∀ {l : List Nat} {i : Nat} {a : Inf} {y : R} {d : Nat}, i ∈ l → infs[i]? = some a → a.x = .r y → a.o.dst = some d → bt cls m i = false → (d, y) ∈ rsOf infs cls m l
  | [], _, _, _, _, h, _, _, _, _ => by simp at h
  | k :: l, i, a, y, d, h, ha, hx, hd, hb => by
    unfold rsOf
    rcases List.mem_cons.1 h with e | h'
    · subst e
      simp only [ha, hx, hd, hb, Bool.false_eq_true, if_false]
      exact List.mem_cons_self ..
    · have ih := mem_rsOf h' ha hx hd hb
      split
      · split
        · split
          · exact ih
          · exact List.mem_cons_of_mem _ ih
        · exact ih
      · exact ih
theorem mem_asOf {infs : List Inf} {cls : List Nat} {m : Nat} : ∀ {l : List Nat} {i : Nat} {a : Inf} {y : A} {d : Nat}, i ∈ l → infs[i]? = some a → a.x = .a y → a.o.dst = some d → bt cls m i = false → (d, y) ∈ asOf infs cls m l
  | [], _, _, _, _, h, _, _, _, _ => by simp at h
  | k :: l, i, a, y, d, h, ha, hx, hd, hb => by
    unfold asOf
    rcases List.mem_cons.1 h with e | h'
    · subst e
      simp only [ha, hx, hd, hb, Bool.false_eq_true, if_false]
      exact List.mem_cons_self ..
    · have ih := mem_asOf h' ha hx hd hb
      split
      · split
        · split
          · exact ih
          · exact List.mem_cons_of_mem _ ih
        · exact ih
      · exact ih

theorem get_pute {e : E} {dst : Option Nat} {v : V} (t : Nat) : (put e dst v).get t = if dst = some t then some v else e.get t := by
  cases dst with
  | none => simp [put]
  | some d =>
    show (T.upd (some v) e d).get t = _
    rw [T.get_upd]
    by_cases h : t = d
    · subst h; simp
    · rw [if_neg h, if_neg (fun e => h (Option.some.inj e).symm)]

section
variable {P : Program} {ty : TypeId → Option TyI} {ibs : FuncId → Bool} {call : Nat → List V → St → Option (V × St)} {nt : Nat}
variable {ops : Array Oper} {infs : List Inf} {cls : List Nat} {prs : List (Nat × Nat)} {order : List Nat} {s0 : St} {ρ0 : Rho} {w0 : World} {pre : List Nat} {rest : List HS} {e : E} {s : St} {listed : Array Bool} {ρ : Rho} {act : Act} {w : World}

/-- What a pending operation that reads or makes memory still yields, behind one that writes. -/
theorem pd_kept {e1 : E} {s1 : St} {ρ' : Rho} {m : Nat} {pend : List Pd} {p : Pd} (hp : PdOk s0 s ρ p) (hpre : p.i ∈ pre) (hinf : infs[p.i]? = some p.a) (hb : bt cls m p.i = false) (hR : chkR e1 s1 (rsOf infs cls m pre) = true) (hA : chkA e1 s1 (asOf infs cls m pre) = true)
    (hra : isRA p.a.x = true → ∃ d, p.a.o.dst = some d) (h4 : ∀ d, p.a.o.dst = some d → e1.get d = some p.v) (h6 : isRA p.a.x = true → Like p.a.ts p.e e1) (hρ : ∀ nid, ρ nid = none → (∃ b, s.h.get nid = some b) → ρ' nid = none) : PdOk s0 s1 ρ' p := by
  rcases hp with hp | ⟨g1, g2⟩
  · exact .inl hp
  · refine .inr ⟨g1, ?_⟩
    cases hx : p.a.x with
    | w x => rw [hx] at g2; exact g2
    | m x => rw [hx] at g2; exact g2
    | r x =>
      rw [hx] at g2
      have g2' : rv p.e s x = some p.v := g2
      have hra' : isRA p.a.x = true := by rw [hx]; rfl
      obtain ⟨d, hd⟩ := hra hra'
      have hov : ov e1 (.t d) = p.v := by simp only [ov, h4 d hd]
      have hts : Like (gT p.a.g ++ rT x) p.e e1 := by
        have := h6 hra'
        unfold Inf.ts at this
        rw [hx] at this
        exact this
      rcases chkR_spec hR _ (mem_rsOf hpre hinf hx hd hb) with h | h
      · rw [hov] at h; exact absurd h (rv_v g2')
      · show rv p.e s1 x = some p.v
        rw [rv_like hts.right, h, hov]
    | a x =>
      rw [hx] at g2
      obtain ⟨l, f, k1, k2, k3, k4, k5⟩ := g2
      have hra' : isRA p.a.x = true := by rw [hx]; rfl
      obtain ⟨d, hd⟩ := hra hra'
      have hov : ov e1 (.t d) = p.v := by simp only [ov, h4 d hd]
      have hts : Like (gT p.a.g ++ aT x) p.e e1 := by
        have := h6 hra'
        unfold Inf.ts at this
        rw [hx] at this
        exact this
      rcases chkA_spec hA _ (mem_asOf hpre hinf hx hd hb) with h | ⟨mm, f', xx, h1, h2, h3⟩
      · rw [hov, k2] at h; exact absurd h (av_v k1 _)
      · have h1' : av e1 x = some (mm, f') := h1
        rw [← av_like hts.right, k1] at h1'
        simp only [Option.some.injEq, Prod.mk.injEq] at h1'
        obtain ⟨rfl, rfl⟩ := h1'
        have h2' : blkOf (ov e1 (.t d)) = some xx := h2
        rw [hov, k2, av_blk k1] at h2'
        simp only [Option.some.injEq] at h2'
        subst h2'
        exact ⟨l, f, k1, k2, h3, hρ _ k4 ⟨_, k3⟩, k5⟩

/-- The operation that is next to write. -/
theorem exec_m (C : Ctx P ty ibs call nt ops infs cls prs order) {m : Nat} {l : List HS} {pend : List Pd} (h : Inv nt ops infs cls order s0 ρ0 w0 pre (.ev m :: l) e s pend none listed ρ act w) {a : Inf} (ha : infs[m]? = some a) {x : M} (hx : a.x = .m x)
    (hr : ∀ o, ops[m]? = some o → ∀ ed ∈ o.after, Region.binds .any ed = true → listed.getD ed.on false = true) {e1 : E} {s1 : St} (hev : evG call e s a.o.dst a.g (.m x) = some (e1, s1)) (hR : chkR e1 s1 (rsOf infs cls m pre) = true) (hA : chkA e1 s1 (asOf infs cls m pre) = true)
    {K : Act → World → Prop} {Q : Exit → Act → World → Prop} (hK : ∀ act' w' ρ', Inv nt ops infs cls order s0 ρ0 w0 (pre ++ [m]) l e1 s1 pend none (listed.setIfInBounds m true) ρ' act' w' → K act' w') : wpOp P ops Q m K act w := by
  have hord : order = pre ++ m :: opsOf l := h.ord
  have hmo : m ∈ order := by rw [hord]; simp
  have hmn : m < ops.size := C.lt _ hmo
  obtain ⟨c1, c2, c3, c4⟩ := C.inf m a ha
  have hlt : ∀ q ∈ pend, q.i ∈ order := fun q hq => by rw [h.ord]; exact List.mem_append_left _ (h.pin q hq)
  have unl : ∀ q ∈ pend, listed.getD q.i false = false := fun q hq => by
    have := (h.lst q.i (C.lt _ (hlt q hq))).2 (.inl ⟨q, hq, rfl⟩)
    rw [← getD_iff h.sz (C.lt _ (hlt q hq))]; exact this
  have notcl : ∀ q ∈ pend, bt cls m q.i = false := fun q hq => by
    cases hb : bt cls m q.i with
    | false => rfl
    | true =>
      have := ready_cl h.dc (C.dep _ _ hb) hr
      rw [unl q hq] at this; cases this
  have facts : ∀ q ∈ pend, (∀ d, q.a.o.dst = some d → a.o.dst ≠ some d) ∧ (∀ d, q.a.o.dst = some d → d ∉ a.ts) ∧ (∀ d, a.o.dst = some d → d ∉ q.a.ts) := by
    intro q hq
    obtain ⟨a', c', g1, g2, g3, g4, g5, g6, g7, g8⟩ := pair_facts (C.split pre (m :: opsOf l) hord q.i (h.pin q hq) m (List.mem_cons_self ..))
    rw [h.inf q hq] at g1
    rw [ha] at g2
    simp only [Option.some.injEq] at g1 g2
    subst g1 g2
    refine ⟨g6, fun d hd hm => ?_, fun d hd hm => ?_⟩
    · have := g7 d hd hm; rw [notcl q hq] at this; cases this
    · have := (g8 d hd hm).1; rw [notcl q hq] at this; cases this
  have htemps : ∀ t ∈ gT a.g ++ moT a.x, ∀ v, e.get t = some v → VR ρ v (act.tmps.getD t undef) := fun t ht v hv =>
    h.i1 t v hv fun q hq hd => (facts q hq).2.1 t hd ht
  obtain ⟨v, hc, rfl⟩ := comes_of_evG hev
  have hrel : Rel ρ s w := h.rel
  refine op_sound C.hty C.hib C.hcall c1 c2 (by rw [← hx]; exact c3) (by rw [← hx]; exact htemps) hrel hc fun cv w' ρ' k1 k2 k3 => hK _ _ ρ' ?_
  have htm := fun t => tmps_put' (a := act) (cv := cv) c4 h.fr t
  have hnodup : (pre ++ m :: opsOf l).Nodup := by rw [← hord]; exact C.nodup
  obtain ⟨n1, n2, n3⟩ := List.nodup_append.1 hnodup
  obtain ⟨n4, n5⟩ := List.nodup_cons.1 n2
  have h4 : ∀ q ∈ pend, ∀ d, q.a.o.dst = some d → (put e a.o.dst v).get d = some q.v := by
    intro q hq d hd
    rw [get_pute, if_neg ((facts q hq).1 d hd)]
    exact h.i4 q hq d hd
  have h6 : ∀ q ∈ pend, isRA q.a.x = true → Like q.a.ts q.e (put e a.o.dst v) := by
    intro q hq hra t ht
    rw [get_pute, if_neg (fun hd => (facts q hq).2.2 t hd ht)]
    exact h.i6 q hq hra t ht
  refine ⟨k2, h.go.trans k3, h.fr.put _ _, by simpa using h.sz, ?_, dc_set h.sz hmn h.dc hr, by rw [hord]; simp, fun q hq => List.mem_append_left _ (h.pin q hq), (fun hh hhe => by cases hhe), h.nd, h.inf, ?_, ?_, ?_, h4, h6, h.nids, (fun hh hhe => by cases hhe), (fun hh hhe => by cases hhe)⟩
  · intro i hi
    rw [listed_set h.sz hmn]
    by_cases him : i = m
    · rw [if_pos him]
      simp only [Bool.true_eq_false, false_iff, not_or, not_exists, not_and]
      refine ⟨fun q hq e => n3 q.i (h.pin q hq) m (List.mem_cons_self ..) (e.trans him), (fun hh hhe => by cases hhe), fun hin => n4 (him ▸ hin)⟩
    · rw [if_neg him, h.lst i hi]
      constructor
      · rintro (hh | hh | hh)
        · exact .inl hh
        · exact .inr (.inl hh)
        · rcases List.mem_cons.1 hh with e' | hh
          · exact absurd e' him
          · exact .inr (.inr hh)
      · rintro (hh | hh | hh)
        · exact .inl hh
        · exact .inr (.inl hh)
        · exact .inr (.inr (List.mem_cons_of_mem _ hh))
  · intro t u hu hq
    rw [htm]
    rw [get_pute] at hu
    split at hu
    · rename_i hd
      rw [if_pos hd]
      simp only [Option.some.injEq] at hu; subst hu; exact k1
    · rename_i hd
      rw [if_neg hd]
      exact (h.i1 t u hu hq).mono k3.le
  · intro q hq t ht
    rcases h.i2 q hq t ht with hh | ⟨hh1, hh2⟩
    · exact .inl hh
    · refine .inr ⟨hh1, fun u hu => ?_⟩
      rw [htm, if_neg (fun hd => (facts q hq).2.2 t hd ht)]
      exact (hh2 u hu).mono k3.le
  · intro q hq
    obtain ⟨a', g1, g2, g3, g4⟩ := self_facts (C.self q.i (hlt q hq))
    rw [h.inf q hq] at g1
    simp only [Option.some.injEq] at g1
    subst g1
    refine pd_kept (pend := pend) (h.i3 q hq) (h.pin q hq) (h.inf q hq) (notcl q hq) hR hA g4 (h4 q hq) (h6 q hq) ?_
    rintro nid hn ⟨b, hb⟩
    cases hρ : ρ' nid with
    | none => rfl
    | some y =>
      rcases k3.fresh _ _ hρ with h1 | h1
      · rw [hn] at h1; cases h1
      · exact absurd h1 (Nat.not_le.2 (hrel.lt _ _ hb))
end
end Go.Ev
