/-
Code: regions in the text's order, sequences, tests, blocks, loops.
-/
import Derived.Test.YtjidglpldjcmdaaGreatEvS
import Derived.LoopN
set_option linter.unusedVariables false
set_option linter.unusedSimpArgs false
set_option maxRecDepth 20000
namespace Go.Ev
open Go

inductive HS where
  | ev (i : Nat)
  | e2 (i j : Nat)

section
variable (ty : TypeId → Option TyI) (ibs : FuncId → Bool) (nt : Nat)
def cGuard (ops : Array Oper) : Option (Nat × Bool) → Option (Option (Nat × Bool))
  | none => some none
  | some (j, want) => match (ops[j]?).bind (·.dst) with
    | some d => some (some (d, want))
    | none => none
def dstOk : Option Tmp → Bool
  | none => true
  | some d => Nat.blt d nt
noncomputable def cStp (ops : Array Oper) (o : Oper) : Option Stp :=
  match cGuard ops o.guard, cMO ty ibs o.op with
  | some g, some x => if dstOk nt o.dst then some (.ev o.dst g x) else none
  | _, _ => none
noncomputable def cSeq (ops : Array Oper) : List Oper → Option (List Stp)
  | [] => some []
  | o :: l => match cStp ty ibs nt ops o, cSeq ops l with
    | some s, some m => some (s :: m)
    | _, _ => none
end

/-- The frame has its slots, and nothing is deferred. -/
def FrOk (nt : Nat) (a : Act) : Prop := nt ≤ a.tmps.size ∧ a.defers = []
theorem FrOk.put {nt : Nat} {a : Act} (h : FrOk nt a) (dst : Option Tmp) (v : Value) : FrOk nt (a.put dst v) := by
  cases dst with
  | none => exact h
  | some d => exact ⟨by simpa [Act.put] using h.1, h.2⟩

theorem tmps_put {a : Act} {d t : Nat} {v : Value} (hd : d < a.tmps.size) : (a.put (some d) v).tmps.getD t undef = if t = d then v else a.tmps.getD t undef := by
  simp only [Act.put, Array.getD_eq_getD_getElem?, Array.getElem?_setIfInBounds]
  by_cases h : d = t
  · subst h; simp [hd]
  · rw [if_neg h, if_neg (fun e => h e.symm)]
theorem ER.put {ρ : Rho} {e : E} {a : Act} (he : ER ρ e a) {dst : Option Tmp} {v : V} {cv : Value} (hv : VR ρ v cv) {nt : Nat} (hd : dstOk nt dst = true) (hf : FrOk nt a) : ER ρ (put e dst v) (a.put dst cv) := by
  cases dst with
  | none => exact he
  | some d =>
    have hlt : d < a.tmps.size := by
      have h1 : d < nt := by
        have : Nat.ble (d + 1) nt = true := hd
        exact Nat.le_of_ble_eq_true this
      exact Nat.lt_of_lt_of_le h1 hf.1
    intro t u hu
    rw [tmps_put hlt]
    have hu' : (T.upd (some v) e d).get t = some u := hu
    rw [T.get_upd] at hu'
    by_cases h : t = d
    · rw [if_pos h] at hu' ⊢
      simp only [Option.some.injEq] at hu'; subst hu'; exact hv
    · rw [if_neg h] at hu' ⊢
      exact he t u hu'

/-- Is a guarded operation carried out? -/
theorem wanted_of {ρ : Rho} {e : E} {a : Act} (he : ER ρ e a) {ops : Array Oper} {o : Oper} {j : Nat} {want : Bool} {d : Tmp} (hg : o.guard = some (j, want)) (hj : (ops[j]?).bind (·.dst) = some d) :
    (∀ b, ov e (.t d) = .c (.b b) → Region.wanted o (yielded ops a.tmps) = (b == want)) ∧ (ov e (.t d) = .t [] → Region.wanted o (yielded ops a.tmps) = false) := by
  have hov := he.ov (x := .tmp d) (y := .t d) rfl
  have hev : a.eval (.tmp d) = a.tmps.getD d undef := rfl
  rw [hev] at hov
  constructor
  · intro b hb
    rw [hb] at hov
    have h1 : a.tmps.getD d undef = .bool b := hov
    have h2 : a.tmps[d]? = some (.bool b) := by
      rw [Array.getD_eq_getD_getElem?] at h1
      cases h3 : a.tmps[d]? with
      | none => rw [h3] at h1; simp [undef] at h1
      | some v => rw [h3] at h1; simpa using h1
    simp only [Region.wanted, hg, yielded, hj, Option.bind_some, h2]
    rw [Bool.eq_iff_iff]; simp
  · intro hb
    rw [hb] at hov
    obtain ⟨arr, h1, h2⟩ := hov
    simp only [Region.wanted, hg, yielded, hj, Option.bind_some]
    rw [Array.getD_eq_getD_getElem?] at h1
    cases h3 : a.tmps[d]? with
    | none => rfl
    | some v =>
      rw [h3] at h1
      simp only [Option.getD_some] at h1
      subst h1
      rfl

section
variable {P : Program} {ty : TypeId → Option TyI} {ibs : FuncId → Bool} {call : Nat → List V → St → Option (V × St)} {nt : Nat}

/-- A step in the text's order. -/
theorem ev_sound (hty : TyOk P ty) (hib : IbsOk P ibs) (hcall : CallOk P call) {ops : Array Oper} {i : Nat} {o : Oper} (hi : ops[i]? = some o) {g : Option (Nat × Bool)} (hg : cGuard ops o.guard = some g) {x : MO} (hx : cMO ty ibs o.op = some x) (hd : dstOk nt o.dst = true)
    {ρ : Rho} {e e' : E} {a : Act} (he : ER ρ e a) {s s' : St} {w : World} (hr : Rel ρ s w) (hf : FrOk nt a) (hs : evG call e s o.dst g x = some (e', s'))
    {K : Act → World → Prop} {Q : Exit → Act → World → Prop} (hK : ∀ a' w' ρ', ER ρ' e' a' → Rel ρ' s' w' → Go s ρ w s' ρ' w' → FrOk nt a' → K a' w') : wpOp P ops Q i K a w := by
  have run : ∀ {v : V} {s1 : St}, mo call e s x = some (v, s1) → e' = put e o.dst v → s' = s1 → o.wp P a w K Q := by
    intro v s1 h1 h2 h3
    subst h2 h3
    exact mo_sound hty hib hcall hx he hr h1 fun cv w' ρ' k1 k2 k3 => hK _ _ ρ' ((he.mono k3.le).put k1 hd hf) k2 k3 (hf.put _ _)
  have skip : Region.wanted o (yielded ops a.tmps) = false → e' = put e o.dst (.t []) → s' = s → wpOp P ops Q i K a w := by
    intro h1 h2 h3
    subst h2 h3
    unfold wpOp
    simp only [hi, h1, Bool.false_eq_true, if_false]
    exact hK _ _ ρ (he.put (v := .t []) ⟨#[], rfl, trivial⟩ hd hf) hr (Go.refl _ _ _) (hf.put _ _)
  have some_ : Region.wanted o (yielded ops a.tmps) = true → o.wp P a w K Q → wpOp P ops Q i K a w := by
    intro h1 h2
    unfold wpOp
    simp only [hi, h1, if_true]
    exact .inl h2
  cases hog : o.guard with
  | none =>
    rw [hog] at hg
    simp only [cGuard, Option.some.injEq] at hg; subst hg
    simp only [evG] at hs
    split at hs
    · rename_i v s1 h1
      simp only [Option.some.injEq, Prod.mk.injEq] at hs
      exact some_ (by simp [Region.wanted, hog]) (run h1 hs.1.symm hs.2.symm)
    · simp at hs
  | some q =>
    obtain ⟨j, want⟩ := q
    rw [hog] at hg
    simp only [cGuard] at hg
    split at hg
    · rename_i d hj
      simp only [Option.some.injEq] at hg; subst hg
      obtain ⟨w1, w2⟩ := wanted_of he hog hj
      simp only [evG] at hs
      split at hs
      · rename_i b hb
        have hw := w1 b hb
        have hbw : (bif b then want else not want) = (b == want) := by cases b <;> cases want <;> rfl
        rw [hbw] at hs
        cases hbb : (b == want) with
        | true =>
          rw [hbb, cond_true] at hs
          split at hs
          · rename_i v s1 h1
            simp only [Option.some.injEq, Prod.mk.injEq] at hs
            exact some_ (by rw [hw, hbb]) (run h1 hs.1.symm hs.2.symm)
          · simp at hs
        | false =>
          rw [hbb, cond_false] at hs
          simp only [Option.some.injEq, Prod.mk.injEq] at hs
          exact skip (by rw [hw, hbb]) hs.1.symm hs.2.symm
      · rename_i hb
        simp only [Option.some.injEq, Prod.mk.injEq] at hs
        exact skip (w2 hb) hs.1.symm hs.2.symm
      · simp at hs
    · simp at hg

/-- A region in the text's order. -/
theorem seq_sound (hty : TyOk P ty) (hib : IbsOk P ibs) (hcall : CallOk P call) {ops : Array Oper} {Q : Exit → Act → World → Prop} :
    ∀ (l : List Oper) (k : Nat) (st : List Stp), ops.toList.drop k = l → cSeq ty ibs nt ops l = some st → ∀ (e e' : E) (s s' : St) (ρ : Rho) (a : Act) (w : World), ER ρ e a → Rel ρ s w → FrOk nt a → reg call st e s = some (e', s') →
      (∀ a' w' ρ', ER ρ' e' a' → Rel ρ' s' w' → Go s ρ w s' ρ' w' → FrOk nt a' → Q .normal a' w') → wpOps P ops Q (List.range' k l.length) a w
  | [], k, st, hk, hc, e, e', s, s', ρ, a, w, he, hr, hf, hs, hQ => by
    simp only [cSeq, Option.some.injEq] at hc; subst hc
    have : some (e, s) = some (e', s') := hs
    simp only [Option.some.injEq, Prod.mk.injEq] at this
    obtain ⟨rfl, rfl⟩ := this
    exact hQ a w ρ he hr (Go.refl _ _ _) hf
  | o :: l, k, st, hk, hc, e, e', s, s', ρ, a, w, he, hr, hf, hs, hQ => by
    have hok : ops[k]? = some o := by
      have : ops.toList[k]? = some o := by
        have h1 : (ops.toList.drop k)[0]? = some o := by rw [hk]; rfl
        rw [List.getElem?_drop] at h1
        simpa using h1
      simpa using this
    have hk' : ops.toList.drop (k + 1) = l := by
      rw [← List.drop_drop, hk]; rfl
    unfold cSeq at hc
    split at hc
    · rename_i x m h1 h2
      simp only [Option.some.injEq] at hc; subst hc
      unfold cStp at h1
      split at h1
      · rename_i g y hg hy
        split at h1
        · rename_i hd
          simp only [Option.some.injEq] at h1; subst h1
          have hs' : (match evG call e s o.dst g y with | some (e, s) => reg call m e s | none => none) = some (e', s') := hs
          split at hs'
          · rename_i e1 s1 hs1
            simp only [List.length_cons, List.range'_succ]
            rw [wpOps_cons]
            refine ev_sound hty hib hcall hok hg hy hd he hr hf hs1 fun a1 w1 ρ1 k1 k2 k3 k4 => ?_
            exact seq_sound hty hib hcall l (k + 1) m hk' h2 e1 e' s1 s' ρ1 a1 w1 k1 k2 k4 hs' fun a2 w2 ρ2 j1 j2 j3 j4 => hQ a2 w2 ρ2 j1 j2 (k3.trans j3) j4
          · simp at hs'
        · simp at h1
      · simp at h1
    · simp at hc
end

section
variable (ty : TypeId → Option TyI) (ibs : FuncId → Bool) (nt : Nat) (cDraw : Array Oper → List HS → Option (List Stp))
noncomputable def cCode : Code → List (List HS) → Option (MC × List (List HS))
  | .skip, h => some (.skip, h)
  | .region _ ops false, h => match cSeq ty ibs nt ops ops.toList with | some l => some (.reg l, h) | none => none
  | .region _ ops true, x :: h => match cDraw ops x with | some l => some (.reg l, h) | none => none
  | .seq a b, h => match cCode a h with
    | some (a, h) => match cCode b h with | some (b, h) => some (.seq a b, h) | none => none
    | none => none
  | .cond c a b, h => match cO c, cCode a h with
    | some c, some (a, h) => match cCode b h with | some (b, h) => some (.cond c a b, h) | none => none
    | _, _ => none
  | .block id b, h => match cCode b h with | some (b, h) => some (.blk id b, h) | none => none
  | .loop b, h => match cCode b h with | some (b, h) => some (.loop b, h) | none => none
  | .exit id, h => some (.exit id, h)
  | .ret, h => some (.ret, h)
  | _, _ => none
end

/-- What is to be shown behind code. -/
def Post (nt : Nat) (s0 : St) (ρ : Rho) (w : World) (Q : Exit → Act → World → Prop) : Rs → Prop
  | .no e s => ∀ a' w' ρ', ER ρ' e a' → Rel ρ' s w' → Go s0 ρ w s ρ' w' → FrOk nt a' → Q .normal a' w'
  | .ex id e s => ∀ a' w' ρ', ER ρ' e a' → Rel ρ' s w' → Go s0 ρ w s ρ' w' → FrOk nt a' → Q (.exit id) a' w'
  | .rt e s => ∀ a' w' ρ', ER ρ' e a' → Rel ρ' s w' → Go s0 ρ w s ρ' w' → FrOk nt a' → Q .ret a' w'
  | .bad => False

/-- What is asked of regions that draw their order. -/
def DrawOk (P : Program) (call : Nat → List V → St → Option (V × St)) (nt : Nat) (cDraw : Array Oper → List HS → Option (List Stp)) : Prop :=
  ∀ (id : Nat) (ops : Array Oper) (x : List HS) (l : List Stp), cDraw ops x = some l → ∀ (e e' : E) (s s' : St) (ρ : Rho) (a : Act) (w : World) (Q : Exit → Act → World → Prop), ER ρ e a → Rel ρ s w → FrOk nt a → reg call l e s = some (e', s') →
    (∀ a' w' ρ', ER ρ' e' a' → Rel ρ' s' w' → Go s ρ w s' ρ' w' → FrOk nt a' → Q .normal a' w') → (Code.region id ops true).wp P Q a w

theorem Post.trans {nt : Nat} {s0 s1 : St} {ρ ρ' : Rho} {w w' : World} {Q : Exit → Act → World → Prop} {r : Rs} (hg : Go s0 ρ w s1 ρ' w') (h : Post nt s0 ρ w Q r) : Post nt s1 ρ' w' Q r := by
  cases r with
  | no e s => exact fun a2 w2 ρ2 h1 h2 h3 h4 => h a2 w2 ρ2 h1 h2 (hg.trans h3) h4
  | ex id e s => exact fun a2 w2 ρ2 h1 h2 h3 h4 => h a2 w2 ρ2 h1 h2 (hg.trans h3) h4
  | rt e s => exact fun a2 w2 ρ2 h1 h2 h3 h4 => h a2 w2 ρ2 h1 h2 (hg.trans h3) h4
  | bad => exact h

section
variable {P : Program} {ty : TypeId → Option TyI} {ibs : FuncId → Bool} {call : Nat → List V → St → Option (V × St)} {nt : Nat} {cDraw : Array Oper → List HS → Option (List Stp)} {N : Nat}
theorem code_sound (hty : TyOk P ty) (hib : IbsOk P ibs) (hcall : CallOk P call) (hdraw : DrawOk P call nt cDraw) : ∀ (c : Code) (h h' : List (List HS)) (m : MC), cCode ty ibs nt cDraw c h = some (m, h') →
    ∀ (e : E) (s : St) (ρ : Rho) (a : Act) (w : World) (Q : Exit → Act → World → Prop), ER ρ e a → Rel ρ s w → FrOk nt a → Post nt s ρ w Q (ev call N m e s) → c.wp P Q a w
  | .skip, h, h', m, hc, e, s, ρ, a, w, Q, he, hr, hf, hp => by
    simp only [cCode, Option.some.injEq, Prod.mk.injEq] at hc
    obtain ⟨rfl, _⟩ := hc
    exact wp_skip (hp a w ρ he hr (Go.refl _ _ _) hf)
  | .exit id, h, h', m, hc, e, s, ρ, a, w, Q, he, hr, hf, hp => by
    simp only [cCode, Option.some.injEq, Prod.mk.injEq] at hc
    obtain ⟨rfl, _⟩ := hc
    exact wp_exit (hp a w ρ he hr (Go.refl _ _ _) hf)
  | .ret, h, h', m, hc, e, s, ρ, a, w, Q, he, hr, hf, hp => by
    simp only [cCode, Option.some.injEq, Prod.mk.injEq] at hc
    obtain ⟨rfl, _⟩ := hc
    exact wp_ret (hp a w ρ he hr (Go.refl _ _ _) hf)
  | .region id ops false, h, h', m, hc, e, s, ρ, a, w, Q, he, hr, hf, hp => by
    simp only [cCode] at hc
    split at hc
    · rename_i l hl
      simp only [Option.some.injEq, Prod.mk.injEq] at hc
      obtain ⟨rfl, _⟩ := hc
      have hp' : Post nt s ρ w Q (match reg call l e s with | some (e, s) => .no e s | none => .bad) := hp
      split at hp'
      · rename_i e' s' hs
        refine wp_region ?_
        have := seq_sound (Q := Q) hty hib hcall ops.toList 0 l (by simp) hl e e' s s' ρ a w he hr hf hs hp'
        rw [List.range_eq_range']
        simpa using this
      · exact hp'.elim
    · simp at hc
  | .region id ops true, h, h', m, hc, e, s, ρ, a, w, Q, he, hr, hf, hp => by
    cases h with
    | nil => simp [cCode] at hc
    | cons x h =>
      simp only [cCode] at hc
      split at hc
      · rename_i l hl
        simp only [Option.some.injEq, Prod.mk.injEq] at hc
        obtain ⟨rfl, _⟩ := hc
        have hp' : Post nt s ρ w Q (match reg call l e s with | some (e, s) => .no e s | none => .bad) := hp
        split at hp'
        · rename_i e' s' hs
          exact hdraw id ops x l hl e e' s s' ρ a w Q he hr hf hs hp'
        · exact hp'.elim
      · simp at hc
  | .seq x y, h, h', m, hc, e, s, ρ, a, w, Q, he, hr, hf, hp => by
    simp only [cCode] at hc
    split at hc
    · rename_i x' h1 hx
      split at hc
      · rename_i y' h2 hy
        simp only [Option.some.injEq, Prod.mk.injEq] at hc
        obtain ⟨rfl, _⟩ := hc
        have hp' : Post nt s ρ w Q (match ev call N x' e s with | .no e s => ev call N y' e s | r => r) := hp
        refine wp_seq (code_sound hty hib hcall hdraw x h h1 x' hx e s ρ a w _ he hr hf ?_)
        cases hr1 : ev call N x' e s with
        | no e1 s1 =>
          rw [hr1] at hp'
          intro a1 w1 ρ1 k1 k2 k3 k4
          exact code_sound hty hib hcall hdraw y h1 h2 y' hy e1 s1 ρ1 a1 w1 Q k1 k2 k4 (Post.trans k3 hp')
        | ex id e1 s1 => rw [hr1] at hp'; exact hp'
        | rt e1 s1 => rw [hr1] at hp'; exact hp'
        | bad => rw [hr1] at hp'; exact hp'
      · simp at hc
    · simp at hc
  | .cond c x y, h, h', m, hc, e, s, ρ, a, w, Q, he, hr, hf, hp => by
    simp only [cCode] at hc
    split at hc
    · rename_i c' x' h1 hcc hx
      split at hc
      · rename_i y' h2 hy
        simp only [Option.some.injEq, Prod.mk.injEq] at hc
        obtain ⟨rfl, _⟩ := hc
        have hp' : Post nt s ρ w Q (match os e c' with | .b b => Bool.rec (ev call N y' e s) (ev call N x' e s) b | _ => .bad) := hp
        split at hp'
        · rename_i b hb
          have hb' : a.eval c = .bool b := he.at hcc hb
          cases b with
          | true => exact wp_cond_true hb' (code_sound hty hib hcall hdraw x h h1 x' hx e s ρ a w Q he hr hf hp')
          | false => exact wp_cond_false hb' (code_sound hty hib hcall hdraw y h1 h2 y' hy e s ρ a w Q he hr hf hp')
        · exact hp'.elim
      · simp at hc
    · simp at hc
  | .block id b, h, h', m, hc, e, s, ρ, a, w, Q, he, hr, hf, hp => by
    simp only [cCode] at hc
    split at hc
    · rename_i b' h1 hb
      simp only [Option.some.injEq, Prod.mk.injEq] at hc
      obtain ⟨rfl, _⟩ := hc
      have hp' : Post nt s ρ w Q (match ev call N b' e s with | .ex id' e s => bif Nat.beq id' id then .no e s else .ex id' e s | r => r) := hp
      refine wp_block (code_sound hty hib hcall hdraw b h h1 b' hb e s ρ a w _ he hr hf ?_)
      cases hr1 : ev call N b' e s with
      | no e1 s1 => rw [hr1] at hp'; exact hp'
      | ex id' e1 s1 =>
        rw [hr1] at hp'
        simp only at hp'
        intro a1 w1 ρ1 k1 k2 k3 k4
        show if id' = id then Q .normal a1 w1 else Q (.exit id') a1 w1
        rw [nbeq] at hp'
        by_cases hid : id' = id
        · have : (id' == id) = true := by simpa using hid
          rw [this, cond_true] at hp'
          rw [if_pos hid]
          exact hp' a1 w1 ρ1 k1 k2 k3 k4
        · have : (id' == id) = false := by simpa using hid
          rw [this, cond_false] at hp'
          rw [if_neg hid]
          exact hp' a1 w1 ρ1 k1 k2 k3 k4
      | rt e1 s1 => rw [hr1] at hp'; exact hp'
      | bad => rw [hr1] at hp'; exact hp'
    · simp at hc
  | .loop b, h, h', m, hc, e, s, ρ, a, w, Q, he, hr, hf, hp => by
    simp only [cCode] at hc
    split at hc
    · rename_i b' h1 hb
      simp only [Option.some.injEq, Prod.mk.injEq] at hc
      obtain ⟨rfl, _⟩ := hc
      refine wp_loop_rounds N ?_
      have key : ∀ (n : Nat) (e : E) (s : St) (ρ : Rho) (a : Act) (w : World), ER ρ e a → Rel ρ s w → FrOk nt a →
          Post nt s ρ w Q (Nat.rec (motive := fun _ => E → St → Rs) (fun _ _ => .bad) (fun _ ih e s => match ev call N b' e s with | .no e s => ih e s | r => r) n e s) → Code.rounds P b Q n a w := by
        intro n
        induction n with
        | zero => intro e s ρ a w _ _ _ hp; exact hp.elim
        | succ n ih =>
          intro e s ρ a w he hr hf hp
          rw [rounds_succ]
          have hp' : Post nt s ρ w Q (match ev call N b' e s with | .no e s => (Nat.rec (motive := fun _ => E → St → Rs) (fun _ _ => .bad) (fun _ ih e s => match ev call N b' e s with | .no e s => ih e s | r => r) n e s) | r => r) := hp
          refine code_sound hty hib hcall hdraw b h h1 b' hb e s ρ a w _ he hr hf ?_
          cases hr1 : ev call N b' e s with
          | no e1 s1 =>
            rw [hr1] at hp'
            intro a1 w1 ρ1 k1 k2 k3 k4
            exact ih e1 s1 ρ1 a1 w1 k1 k2 k4 (Post.trans k3 hp')
          | ex id e1 s1 => rw [hr1] at hp'; exact hp'
          | rt e1 s1 => rw [hr1] at hp'; exact hp'
          | bad => rw [hr1] at hp'; exact hp'
      exact key N e s ρ a w he hr hf hp
    · simp at hc
  | .scope _, h, h', m, hc, _, _, _, _, _, _, _, _, _, _ => by simp [cCode] at hc
  | .label _, h, h', m, hc, _, _, _, _, _, _, _, _, _, _ => by simp [cCode] at hc
  | .goto _, h, h', m, hc, _, _, _, _, _, _, _, _, _, _ => by simp [cCode] at hc
  | .refuse _, h, h', m, hc, _, _, _, _, _, _, _, _, _, _ => by simp [cCode] at hc
  | .rangeFunc _ _ _ _, h, h', m, hc, _, _, _, _, _, _, _, _, _, _ => by simp [cCode] at hc
end
end Go.Ev
