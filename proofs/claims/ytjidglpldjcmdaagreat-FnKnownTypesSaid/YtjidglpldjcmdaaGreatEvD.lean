/-
Regions that draw their order: the check of an order, and what it gives.
-/
import Derived.Test.YtjidglpldjcmdaaGreatEvC
set_option linter.unusedVariables false
set_option linter.unusedSimpArgs false
set_option maxRecDepth 20000
namespace Go.Ev
open Go

structure Inf where
  o : Oper
  x : MO
  g : Option (Nat × Bool)
def Inf.ts (a : Inf) : List Nat := gT a.g ++ moT a.x
def isM : MO → Bool
  | .m _ => true
  | _ => false
def isRA : MO → Bool
  | .r _ => true
  | .a _ => true
  | _ => false
def memD (d : Option Nat) (l : List Nat) : Bool :=
  match d with
  | none => false
  | some t => l.contains t
def maskE (acc : List Nat) (es : List Edge) : Nat := es.foldl (fun s e => if Region.binds .any e then s ||| (2 ^ e.on ||| acc.getD e.on 0) else s) 0
def clsL : List Oper → List Nat → List Nat
  | [], acc => acc
  | o :: l, acc => clsL l (acc ++ [maskE acc o.after.toList])
def bt (cls : List Nat) (i j : Nat) : Bool := (cls.getD i 0).testBit j
def pairOk (infs : List Inf) (cls : List Nat) (prs : List (Nat × Nat)) (i j : Nat) : Bool :=
  match infs[i]?, infs[j]? with
  | some a, some c =>
    !(Nat.beq i j) && !(bt cls i j) &&
    (!(isM a.x) || (bt cls j i || prs.contains (i, j))) &&
    (match a.o.dst, c.o.dst with | some d, some d' => d != d' | _, _ => true) &&
    (!(memD a.o.dst c.ts) || bt cls j i) &&
    (!(memD c.o.dst a.ts) || (bt cls j i && !(isRA a.x)))
  | _, _ => false
def selfOk (infs : List Inf) (cls : List Nat) (i : Nat) : Bool :=
  match infs[i]? with
  | some a => !(bt cls i i) && !(memD a.o.dst a.ts) && (!(isRA a.x) || a.o.dst.isSome)
  | none => false
def pairsOk (f : Nat → Nat → Bool) : List Nat → Bool
  | [] => true
  | i :: l => l.all (f i) && pairsOk f l
def topoOk (infs : List Inf) : List Nat → List Nat → Bool
  | _, [] => true
  | pre, i :: l => (match infs[i]? with
    | some a => a.o.after.toList.all fun e => !(Region.binds .any e) || pre.contains e.on
    | none => false) && topoOk infs (pre ++ [i]) l
def opsOf : List HS → List Nat
  | [] => []
  | .ev i :: l => i :: opsOf l
  | .e2 i j :: l => i :: j :: opsOf l
def prsOf : List HS → List (Nat × Nat)
  | [] => []
  | .ev _ :: l => prsOf l
  | .e2 i j :: l => (i, j) :: prsOf l
def rsOf (infs : List Inf) (cls : List Nat) (m : Nat) : List Nat → List (Nat × R)
  | [] => []
  | i :: l => match infs[i]? with
    | some a => match a.x, a.o.dst with
      | .r y, some d => if bt cls m i then rsOf infs cls m l else (d, y) :: rsOf infs cls m l
      | _, _ => rsOf infs cls m l
    | none => rsOf infs cls m l
def asOf (infs : List Inf) (cls : List Nat) (m : Nat) : List Nat → List (Nat × A)
  | [] => []
  | i :: l => match infs[i]? with
    | some a => match a.x, a.o.dst with
      | .a y, some d => if bt cls m i then asOf infs cls m l else (d, y) :: asOf infs cls m l
      | _, _ => asOf infs cls m l
    | none => asOf infs cls m l
def raOk (infs : List Inf) (cls : List Nat) (i j : Nat) (pre : List Nat) : Bool :=
  pre.all fun k => match infs[k]? with | some a => !(isRA a.x) || (bt cls i k && bt cls j k) | none => false
def stepsOf (infs : List Inf) (cls : List Nat) : List Nat → List HS → Option (List Stp)
  | _, [] => some []
  | pre, .ev i :: l => match infs[i]?, stepsOf infs cls (pre ++ [i]) l with
    | some a, some st => match a.x with
      | .m x => if (opsOf l).all (fun q => bt cls q i) then some (.mk a.o.dst a.g x (rsOf infs cls i pre) (asOf infs cls i pre) :: st) else none
      | x => some (.ev a.o.dst a.g x :: st)
    | _, _ => none
  | pre, .e2 i j :: l => match infs[i]?, infs[j]?, stepsOf infs cls (pre ++ [i, j]) l with
    | some a, some c, some st => match a.x, a.g, a.o.dst, c.x, c.g, c.o.dst with
      | .m (.st n₁ a₁ v₁), none, none, .m (.st n₂ a₂ v₂), none, none => if raOk infs cls i j pre && (opsOf l).all (fun q => bt cls q i && bt cls q j) then some (.e2 n₁ a₁ v₁ n₂ a₂ v₂ :: st) else none
      | _, _, _, _, _, _ => none
    | _, _, _ => none
section
variable (ty : TypeId → Option TyI) (ibs : FuncId → Bool) (nt : Nat)
noncomputable def infOf (ops : Array Oper) (o : Oper) : Option Inf :=
  match cGuard ops o.guard, cMO ty ibs o.op with
  | some g, some x => if dstOk nt o.dst then some ⟨o, x, g⟩ else none
  | _, _ => none
noncomputable def infsOf (ops : Array Oper) : List Oper → Option (List Inf)
  | [] => some []
  | o :: l => match infOf ty ibs nt ops o, infsOf ops l with
    | some a, some m => some (a :: m)
    | _, _ => none
def permOk (n : Nat) (l : List Nat) : Bool := l.all (fun i => Nat.blt i n) && (List.range n).all fun i => l.contains i
noncomputable def cDraw (ops : Array Oper) (h : List HS) : Option (List Stp) :=
  match infsOf ty ibs nt ops ops.toList with
  | none => none
  | some infs =>
    let cls := clsL ops.toList []
    if permOk ops.size (opsOf h) && pairsOk (pairOk infs cls (prsOf h)) (opsOf h) && (opsOf h).all (selfOk infs cls) && topoOk infs [] (opsOf h) then stepsOf infs cls [] h else none
end

/-! What the check gives. -/
/-- Before i comes j, by the edges. -/
inductive Dep (ops : Array Oper) : Nat → Nat → Prop where
  | one {i j : Nat} {o : Oper} {e : Edge} : ops[i]? = some o → e ∈ o.after → Region.binds .any e = true → e.on = j → Dep ops i j
  | more {i k j : Nat} {o : Oper} {e : Edge} : ops[i]? = some o → e ∈ o.after → Region.binds .any e = true → e.on = k → Dep ops k j → Dep ops i j

theorem mask_dep {ops : Array Oper} {acc : List Nat} (hacc : ∀ i j, bt acc i j = true → Dep ops i j) {i : Nat} {o : Oper} (hi : ops[i]? = some o) :
    ∀ (es : List Edge) (s : Nat), (∀ e ∈ es, e ∈ o.after) → (∀ j, s.testBit j = true → Dep ops i j) → ∀ j, (es.foldl (fun s e => if Region.binds .any e then s ||| (2 ^ e.on ||| acc.getD e.on 0) else s) s).testBit j = true → Dep ops i j
  | [], s, _, hs, j, h => hs j h
  | e :: es, s, he, hs, j, h => by
    simp only [List.foldl_cons] at h
    refine mask_dep hacc hi es _ (fun e' h' => he e' (List.mem_cons_of_mem _ h')) ?_ j h
    intro k hk
    split at hk
    · rename_i hb
      rw [Nat.testBit_or, Nat.testBit_or, Bool.or_eq_true, Bool.or_eq_true] at hk
      rcases hk with hk | hk | hk
      · exact hs k hk
      · rw [Nat.testBit_two_pow] at hk
        exact .one hi (he e (List.mem_cons_self ..)) hb (by simpa using hk)
      · exact .more hi (he e (List.mem_cons_self ..)) hb rfl (hacc _ _ hk)
    · exact hs k hk
theorem clsL_dep {ops : Array Oper} : ∀ (l : List Oper) (acc : List Nat), ops.toList.drop acc.length = l → (∀ i j, bt acc i j = true → Dep ops i j) → ∀ i j, bt (clsL l acc) i j = true → Dep ops i j
  | [], acc, _, hacc, i, j, h => hacc i j h
  | o :: l, acc, hl, hacc, i, j, h => by
    have hi : ops[acc.length]? = some o := by
      have h1 : (ops.toList.drop acc.length)[0]? = some o := by rw [hl]; rfl
      rw [List.getElem?_drop] at h1
      simpa using h1
    refine clsL_dep l (acc ++ [maskE acc o.after.toList]) ?_ ?_ i j h
    · rw [List.length_append, List.length_singleton, ← List.drop_drop, hl]; rfl
    · intro i j h
      unfold bt at h
      by_cases hlt : i < acc.length
      · refine hacc i j ?_
        unfold bt
        rwa [List.getD_eq_getElem?_getD, List.getElem?_append_left hlt, ← List.getD_eq_getElem?_getD] at h
      · by_cases he : i = acc.length
        · subst he
          rw [List.getD_eq_getElem?_getD, List.getElem?_append_right (Nat.le_refl _)] at h
          simp only [Nat.sub_self, List.getElem?_cons_zero, Option.getD_some] at h
          exact mask_dep hacc hi o.after.toList 0 (fun e he => by simpa using he) (fun j hj => by simp at hj) j h
        · rw [List.getD_eq_getElem?_getD, List.getElem?_eq_none (by simp; omega)] at h
          simp at h
theorem bt_dep {ops : Array Oper} {i j : Nat} (h : bt (clsL ops.toList []) i j = true) : Dep ops i j :=
  clsL_dep ops.toList [] (by simp) (fun i j h => by simp [bt] at h) i j h

theorem infsOf_get {ty : TypeId → Option TyI} {ibs : FuncId → Bool} {nt : Nat} {ops : Array Oper} : ∀ {l : List Oper} {m : List Inf}, infsOf ty ibs nt ops l = some m → ∀ (i : Nat) (a : Inf), m[i]? = some a →
    l[i]? = some a.o ∧ cGuard ops a.o.guard = some a.g ∧ cMO ty ibs a.o.op = some a.x ∧ dstOk nt a.o.dst = true
  | [], m, h, i, a, ha => by
    simp only [infsOf, Option.some.injEq] at h; subst h; simp at ha
  | o :: l, m, h, i, a, ha => by
    unfold infsOf at h
    split at h
    · rename_i b m' h1 h2
      simp only [Option.some.injEq] at h; subst h
      cases i with
      | zero =>
        simp only [List.getElem?_cons_zero, Option.some.injEq] at ha; subst ha
        unfold infOf at h1
        split at h1
        · rename_i g x hg hx
          split at h1
          · rename_i hd
            simp only [Option.some.injEq] at h1; subst h1
            exact ⟨rfl, hg, hx, hd⟩
          · simp at h1
        · simp at h1
      | succ i =>
        simp only [List.getElem?_cons_succ] at ha ⊢
        exact infsOf_get h2 i a ha
    · simp at h
theorem pairs_mem {f : Nat → Nat → Bool} : ∀ {l : List Nat}, pairsOk f l = true → ∀ {pre rest : List Nat}, l = pre ++ rest → ∀ i ∈ pre, ∀ j ∈ rest, f i j = true
  | [], _, pre, rest, h, i, hi, j, hj => by
    cases pre with
    | nil => simp at hi
    | cons y pre => simp at h
  | x :: l, hp, pre, rest, h, i, hi, j, hj => by
    simp only [pairsOk, Bool.and_eq_true, List.all_eq_true] at hp
    cases pre with
    | nil => simp at hi
    | cons y pre =>
      simp only [List.cons_append, List.cons.injEq] at h
      obtain ⟨rfl, rfl⟩ := h
      rcases List.mem_cons.1 hi with rfl | hi
      · exact hp.1 j (List.mem_append_right _ hj)
      · exact pairs_mem hp.2 rfl i hi j hj
theorem pairs_any {f : Nat → Nat → Bool} : ∀ {l : List Nat}, pairsOk f l = true → ∀ i ∈ l, ∀ j ∈ l, i ≠ j → f i j = true ∨ f j i = true
  | [], _, i, hi, _, _, _ => by simp at hi
  | x :: l, hp, i, hi, j, hj, hne => by
    simp only [pairsOk, Bool.and_eq_true, List.all_eq_true] at hp
    rcases List.mem_cons.1 hi with e1 | hi'
    · rcases List.mem_cons.1 hj with e2 | hj'
      · exact absurd (e1.trans e2.symm) hne
      · exact .inl (e1 ▸ hp.1 j hj')
    · rcases List.mem_cons.1 hj with e2 | hj'
      · exact .inr (e2 ▸ hp.1 i hi')
      · exact pairs_any hp.2 i hi' j hj' hne
theorem perm_facts {n : Nat} {l : List Nat} (h : permOk n l = true) : (∀ i, i < n → i ∈ l) ∧ (∀ i ∈ l, i < n) := by
  unfold permOk at h
  simp only [Bool.and_eq_true, List.all_eq_true, List.mem_range, List.contains_iff_mem] at h
  exact ⟨h.2, fun i hi => by have : Nat.ble (i + 1) n = true := h.1 i hi; exact Nat.le_of_ble_eq_true this⟩
theorem nodup_of {f : Nat → Nat → Bool} (hf : ∀ i j, f i j = true → i ≠ j) : ∀ {l : List Nat}, pairsOk f l = true → l.Nodup
  | [], _ => List.nodup_nil
  | x :: l, hp => by
    simp only [pairsOk, Bool.and_eq_true, List.all_eq_true] at hp
    exact List.nodup_cons.2 ⟨fun hx => hf x x (hp.1 x hx) rfl, nodup_of hf hp.2⟩
/-- What a pair that passed gives. -/
theorem pair_facts {infs : List Inf} {cls : List Nat} {prs : List (Nat × Nat)} {i j : Nat} (h : pairOk infs cls prs i j = true) :
    ∃ a c, infs[i]? = some a ∧ infs[j]? = some c ∧ i ≠ j ∧ bt cls i j = false ∧ (isM a.x = true → bt cls j i = true ∨ (i, j) ∈ prs) ∧ (∀ d, a.o.dst = some d → c.o.dst ≠ some d) ∧
      (∀ d, a.o.dst = some d → d ∈ c.ts → bt cls j i = true) ∧ (∀ d, c.o.dst = some d → d ∈ a.ts → bt cls j i = true ∧ isRA a.x = false) := by
  unfold pairOk at h
  split at h
  · rename_i a c ha hc
    simp only [Bool.and_eq_true, Bool.not_eq_true', Bool.or_eq_true, nbeq, beq_eq_false_iff_ne, List.contains_iff_mem] at h
    obtain ⟨⟨⟨⟨⟨h1, h2⟩, h3⟩, h4⟩, h5⟩, h6⟩ := h
    refine ⟨a, c, ha, hc, h1, h2, fun hm => ?_, fun d hd hd' => ?_, fun d hd hm => ?_, fun d hd hm => ?_⟩
    · rcases h3 with h3 | h3
      · rw [hm] at h3; simp at h3
      · exact h3
    · rw [hd, hd'] at h4; simp at h4
    · rcases h5 with h5 | h5
      · simp only [memD, hd] at h5
        rw [List.contains_eq_mem] at h5
        simp only [decide_eq_false_iff_not] at h5
        exact absurd hm h5
      · exact h5
    · rcases h6 with h6 | h6
      · simp only [memD, hd] at h6
        rw [List.contains_eq_mem] at h6
        simp only [decide_eq_false_iff_not] at h6
        exact absurd hm h6
      · exact h6
  · simp at h
theorem topo_facts {infs : List Inf} : ∀ {l pre0 : List Nat}, topoOk infs pre0 l = true → ∀ {pre rest : List Nat} {i : Nat}, l = pre ++ i :: rest → ∀ a, infs[i]? = some a → ∀ e ∈ a.o.after, Region.binds .any e = true → e.on ∈ pre0 ++ pre
  | [], pre0, _, pre, rest, i, h, _, _, _, _, _ => by simp at h
  | x :: l, pre0, ht, pre, rest, i, h, a, ha, e, he, hb => by
    simp only [topoOk, Bool.and_eq_true] at ht
    cases pre with
    | nil =>
      simp only [List.nil_append, List.cons.injEq] at h
      obtain ⟨rfl, rfl⟩ := h
      have h1 := ht.1
      rw [ha] at h1
      simp only [List.all_eq_true, Bool.or_eq_true, Bool.not_eq_true', List.contains_iff_mem] at h1
      rcases h1 e (by simpa using he) with h2 | h2
      · rw [hb] at h2; cases h2
      · rw [List.append_nil]; exact h2
    | cons y pre =>
      simp only [List.cons_append, List.cons.injEq] at h
      obtain ⟨rfl, rfl⟩ := h
      have := topo_facts ht.2 rfl a ha e he hb
      simpa using this
theorem self_facts {infs : List Inf} {cls : List Nat} {i : Nat} (h : selfOk infs cls i = true) :
    ∃ a, infs[i]? = some a ∧ bt cls i i = false ∧ (∀ d, a.o.dst = some d → d ∉ a.ts) ∧ (isRA a.x = true → ∃ d, a.o.dst = some d) := by
  unfold selfOk at h
  split at h
  · rename_i a ha
    simp only [Bool.and_eq_true, Bool.not_eq_true', Bool.or_eq_true] at h
    obtain ⟨⟨h1, h2⟩, h3⟩ := h
    refine ⟨a, ha, h1, fun d hd hm => ?_, fun hr => ?_⟩
    · simp only [memD, hd] at h2
      rw [List.contains_eq_mem] at h2
      simp only [decide_eq_false_iff_not] at h2
      exact h2 hm
    · rcases h3 with h3 | h3
      · rw [hr] at h3; simp at h3
      · exact Option.isSome_iff_exists.1 h3
  · simp at h
end Go.Ev
