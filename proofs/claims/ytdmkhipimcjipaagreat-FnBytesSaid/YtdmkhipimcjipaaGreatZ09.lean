/- Parts of the proof of FnBytes. -/
import Derived.Test.YtdmkhipimcjipaaGreatZ08
import Derived.Test.YtdmkhipimcjipaaGreatZ06
set_option linter.unusedVariables false
set_option linter.unusedSimpArgs false
section
set_option linter.unusedVariables false
set_option linter.unusedSimpArgs false
set_option maxRecDepth 20000
namespace Go.Ev
open Go
theorem evG_some {call : Nat → List V → St → Option (V × St)} {t : E} {u : St} {dst : Option Nat} {i : Nat} {want : Bool} {o : MO} {x : Bool} (h : ov t (.t i) = .c (.b x)) :
    evG call t u dst (some (i, want)) o = bif (bif x then want else not want) then (match mo call t u o with | some (v, s) => some (put t dst v, s) | none => none) else some (put t dst (.t []), u) := by
  unfold evG
  simp only [h]
  rfl
theorem evG_skip {call : Nat → List V → St → Option (V × St)} {t : E} {u : St} {dst : Option Nat} {i : Nat} {want : Bool} {o : MO} (h : ov t (.t i) = .t []) :
    evG call t u dst (some (i, want)) o = some (put t dst (.t []), u) := by
  unfold evG
  simp only [h]
def GOk (f : OpB) (dst : Option Nat) (g : Option (Nat × Bool)) (o : MO) : Prop :=
  ∀ ck call, CallRel ck call → ∀ e s k t u, RE e t → RS s u → f.f ck e s k = true →
    ∃ t' u' e' s', evG call t u dst g o = some (t', u') ∧ RE e' t' ∧ RS s' u' ∧ k e' s' = true
theorem opG_ok (dst : Option Nat) (g : Option (Nat × Bool)) (o : MO) : GOk (opG dst g o) dst g o := by
  intro ck call hc e s k t u he hs h
  cases g with
  | none =>
    obtain ⟨v, u', e', s', h1, h2, h3, h4⟩ := opMO_ok o dst ck call hc e s k t u he hs h
    refine ⟨put t dst v, u', e', s', ?_, h2, h3, h4⟩
    show (match mo call t u o with | some (v, s) => some (put t dst v, s) | none => none) = _
    rw [h1]
  | some q =>
    obtain ⟨i, want⟩ := q
    have e1 : opG dst (some (i, want)) o = ⟨fG want (opMO o (pt dst)).f (gt (.t i)).f (pt dst).f⟩ := by
      show OpB.rec (motive := fun _ => OpB) (fun f => with1 (gt (.t i)) (pt dst) (fG want f)) (opMO o (pt dst)) = _
      cases opMO o (pt dst); rw [← with1_f]
    rw [e1] at h
    have h' : (match (gt (.t i)).f e with
      | .c (.b x) => bif (bif x then want else not want) then (opMO o (pt dst)).f ck e s k else (pt dst).f (.t []) e fun e => k e s
      | .t [] => (pt dst).f (.t []) e fun e => k e s
      | _ => false) = true := h
    rw [he.gt] at h'
    split at h'
    · rename_i x hx
      rw [evG_some hx]
      cases hb : (bif x then want else not want) with
      | true =>
        rw [hb] at h'
        obtain ⟨v, u', e', s', h1, h2, h3, h4⟩ := opMO_ok o dst ck call hc e s k t u he hs h'
        refine ⟨put t dst v, u', e', s', ?_, h2, h3, h4⟩
        simp only [cond_true, h1]
      | false =>
        rw [hb] at h'
        obtain ⟨e', h1, h2⟩ := he.put h'
        exact ⟨_, u, e', s, rfl, h1, hs, h2⟩
    · rename_i hx
      rw [evG_skip hx]
      obtain ⟨e', h1, h2⟩ := he.put h'
      exact ⟨_, u, e', s, rfl, h1, hs, h2⟩
    · cases h'
theorem chkR_cons (t : E) (u : St) (p : Nat × R) (l : List (Nat × R)) : chkR t u (p :: l) = match ov t (.t p.1) with
      | .t [] => chkR t u l
      | v => match rv t u p.2 with | some q => vEq v q && chkR t u l | none => false := rfl
theorem chkRK_cons (e : EK) (s : KS) (p : Nat × R) (l : List (Nat × R)) : chkRK e s (p :: l) = match look e (.t p.1) with
      | .t [] => chkRK e s l
      | v => match rvK (look e) s p.2 with | some q => vEq v q && chkRK e s l | none => false := rfl
theorem chkR_some {e : EK} {s : KS} {t : E} {u : St} (he : RE e t) (hs : RS s u) : ∀ {l : List (Nat × R)}, chkRK e s l = true → chkR t u l = true
  | [], _ => rfl
  | p :: l, h => by
    rw [chkRK_cons, he] at h
    rw [chkR_cons]
    have done : ∀ v, (match rvK (ov t) s p.2 with | some q => vEq v q && chkRK e s l | none => false) = true → (match rv t u p.2 with | some q => vEq v q && chkR t u l | none => false) = true := by
      intro v h'
      split at h'
      · rename_i q hq
        obtain ⟨h1, h2⟩ := (Bool.and_eq_true _ _).mp h'
        rw [hs.rv hq]
        show (vEq v q && chkR t u l) = true
        rw [h1, chkR_some he hs h2]; rfl
      · cases h'
    cases hv : ov t (.t p.1) with
    | t q =>
      cases q with
      | nil => rw [hv] at h; exact chkR_some he hs h
      | cons a b => rw [hv] at h; exact done _ h
    | _ => rw [hv] at h; exact done _ h
theorem chkA_cons (t : E) (u : St) (p : Nat × A) (l : List (Nat × A)) : chkA t u (p :: l) = match ov t (.t p.1) with
      | .t [] => chkA t u l
      | v => match av t p.2, blkOf v with
        | some (l', _), some x => match u.h.get x with
          | some b => lEq b.c l' && Nat.beq b.fam 0 && Nat.beq b.d 0 && chkA t u l
          | none => false
        | _, _ => false := rfl
theorem chkAK_cons (e : EK) (s : KS) (p : Nat × A) (l : List (Nat × A)) : chkAK e s (p :: l) = match look e (.t p.1) with
      | .t [] => chkAK e s l
      | v => match avR (look e) p.2, blkOf v with
        | some (l', _), some x => match getK s x with
          | some b => lEq (revA b.r []) l' && Nat.beq b.fam 0 && Nat.beq b.d 0 && chkAK e s l
          | none => false
        | _, _ => false := rfl
theorem chkA_some {e : EK} {s : KS} {t : E} {u : St} (he : RE e t) (hs : RS s u) : ∀ {l : List (Nat × A)}, chkAK e s l = true → chkA t u l = true
  | [], _ => rfl
  | p :: l, h => by
    rw [chkAK_cons, he, avR_eq] at h
    rw [chkA_cons]
    have done : ∀ v, (match av t p.2, blkOf v with
        | some (l', _), some x => match getK s x with
          | some b => lEq (revA b.r []) l' && Nat.beq b.fam 0 && Nat.beq b.d 0 && chkAK e s l
          | none => false
        | _, _ => false) = true → (match av t p.2, blkOf v with
        | some (l', _), some x => match u.h.get x with
          | some b => lEq b.c l' && Nat.beq b.fam 0 && Nat.beq b.d 0 && chkA t u l
          | none => false
        | _, _ => false) = true := by
      intro v h'
      split at h'
      · rename_i l' f x h1 h2
        split at h'
        · rename_i b hb
          have hh := hs.h x
          rw [hb] at hh
          have hh' : u.h.get x = some b.bk := hh
          obtain ⟨h3, h4⟩ := (Bool.and_eq_true _ _).mp h'
          have e1 : b.bk.c = revA b.r [] := by rw [revA_eq]; simp [KB.bk]
          simp only [hh']
          rw [e1]
          show (lEq (revA b.r []) l' && Nat.beq b.fam 0 && Nat.beq b.d 0 && chkA t u l) = true
          rw [h3, chkA_some he hs h4]; rfl
        · cases h'
      · cases h'
    cases hv : ov t (.t p.1) with
    | t q =>
      cases q with
      | nil => rw [hv] at h; exact chkA_some he hs h
      | cons a b => rw [hv] at h; exact done _ h
    | _ => rw [hv] at h; exact done _ h
theorem fMk_ok (dst : Option Nat) (g : Option (Nat × Bool)) (m : M) (rs : List (Nat × R)) (as_ : List (Nat × A)) {ck : CallK} {call : Nat → List V → St → Option (V × St)} (hc : CallRel ck call) {e : EK} {s : KS} {k : EK → KS → Bool} {t : E} {u : St} (he : RE e t) (hs : RS s u)
    (h : fMk rs as_ (opG dst g (.m m)).f ck e s k = true) : ∃ t' u' e' s', stp call t u (.mk dst g m rs as_) = some (t', u') ∧ RE e' t' ∧ RS s' u' ∧ k e' s' = true := by
  obtain ⟨t', u', e', s', h1, h2, h3, h4⟩ := opG_ok dst g (.m m) ck call hc e s _ t u he hs h
  cases hb : (chkRK e' s' rs && chkAK e' s' as_) with
  | false => rw [hb] at h4; cases h4
  | true =>
    rw [hb] at h4
    obtain ⟨b1, b2⟩ := (Bool.and_eq_true _ _).mp hb
    refine ⟨t', u', e', s', ?_, h2, h3, h4⟩
    show (match evG call t u dst g (.m m) with
      | some (e, s) => bif chkR e s rs && chkA e s as_ then some (e, s) else none
      | none => none) = _
    rw [h1]
    show (bif chkR t' u' rs && chkA t' u' as_ then some (t', u') else none) = _
    rw [chkR_some h2 h3 b1, chkA_some h2 h3 b2]; rfl
theorem RS.setc {s : KS} {u : St} (r : RS s u) {x o n : Nat} {l : List S} (hl : Nat.beq (llen l) n = true) {b : KB} (hb : getK s x = some b) (hle : Nat.ble (Nat.add o n) b.n = true) {k : KS → Bool} (h : setK s x (some (putB b o n l)) k = true) :
    ∃ s' u', Ev.setc u x o l = some u' ∧ RS s' u' ∧ k s' = true := by
  obtain ⟨p1, p2⟩ := putB_bk (r.n x b hb) (l := l) (by rw [← llen_eq]; exact Nat.eq_of_beq_eq_true hl) (Nat.le_of_ble_eq_true hle)
  obtain ⟨s', h1, h2, _⟩ := r.set (fun c hc => by simp only [Option.some.injEq] at hc; exact hc ▸ p2) h
  refine ⟨s', _, ?_, h2, h1⟩
  unfold Ev.setc
  rw [r.h x, hb]
  simp only [Option.map_some, p1]
  rfl
theorem f2_ok (n₁ : Nat) (a₁ v₁ : O) (n₂ : Nat) (a₂ v₂ : O) {ck : CallK} {call : Nat → List V → St → Option (V × St)} {e : EK} {s : KS} {k : EK → KS → Bool} {t : E} {u : St} (he : RE e t) (hs : RS s u)
    (h : f2 n₁ a₁ v₁ n₂ a₂ v₂ ck e s k = true) : ∃ t' u' e' s', stp call t u (.e2 n₁ a₁ v₁ n₂ a₂ v₂) = some (t', u') ∧ RE e' t' ∧ RS s' u' ∧ k e' s' = true := by
  unfold f2 at h
  rw [he] at h
  split at h
  · rename_i x₁ o₁ l₁ x₂ o₂ l₂ g1 g2 g3 g4
    cases hc : (((not (Nat.beq x₁ x₂)) || Nat.ble (Nat.add o₁ n₁) o₂ || Nat.ble (Nat.add o₂ n₂) o₁) && Nat.beq (llen l₁) n₁ && Nat.beq (llen l₂) n₂) with
    | false => rw [hc] at h; cases h
    | true =>
      rw [hc] at h
      obtain ⟨c1, c3⟩ := (Bool.and_eq_true _ _).mp hc
      obtain ⟨_, c2⟩ := (Bool.and_eq_true _ _).mp c1
      simp only [cond_true] at h
      split at h
      · cases h
      · rename_i b₁ hb₁
        cases q1 : Nat.ble (Nat.add o₁ n₁) b₁.n with
        | false => rw [q1] at h; cases h
        | true =>
          rw [q1] at h
          simp only [cond_true] at h
          obtain ⟨s1, u1, i1, i2, i3, _, _⟩ := hs.prep hb₁ q1 h
          split at i3
          · cases i3
          · rename_i b₂ hb₂
            cases q2 : Nat.ble (Nat.add o₂ n₂) b₂.n with
            | false => rw [q2] at i3; cases i3
            | true =>
              rw [q2] at i3
              simp only [cond_true] at i3
              obtain ⟨s2, u2, j1, j2, j3, _, _⟩ := i2.prep hb₂ q2 i3
              split at j3
              · cases j3
              · rename_i b₃ hb₃
                cases q3 : Nat.ble (Nat.add o₁ n₁) b₃.n with
                | false => rw [q3] at j3; cases j3
                | true =>
                  rw [q3] at j3
                  simp only [cond_true] at j3
                  obtain ⟨s3, u3, k1, k2, k3⟩ := j2.setc c2 hb₃ q3 j3
                  split at k3
                  · cases k3
                  · rename_i b₄ hb₄
                    cases q4 : Nat.ble (Nat.add o₂ n₂) b₄.n with
                    | false => rw [q4] at k3; cases k3
                    | true =>
                      rw [q4] at k3
                      simp only [cond_true] at k3
                      obtain ⟨s4, u4, m1, m2, m3⟩ := k2.setc c3 hb₄ q4 k3
                      refine ⟨t, u4, e, s4, ?_, he, m2, m3⟩
                      have g1' : os t a₁ = .p x₁ o₁ := g1
                      have g3' : os t a₂ = .p x₂ o₂ := g3
                      unfold stp
                      simp only [g1', g2, g3', g4, hc, cond_true, i1, j1, k1, m1]
  · cases h
theorem stpB_ok (o : Stp) {ck : CallK} {call : Nat → List V → St → Option (V × St)} (hc : CallRel ck call) {e : EK} {s : KS} {k : EK → KS → Bool} {t : E} {u : St} (he : RE e t) (hs : RS s u) (h : (stpB o).f ck e s k = true) :
    ∃ t' u' e' s', stp call t u o = some (t', u') ∧ RE e' t' ∧ RS s' u' ∧ k e' s' = true := by
  cases o with
  | ev dst g o => exact opG_ok dst g o ck call hc e s k t u he hs h
  | mk dst g o rs as_ =>
    have e1 : stpB (.mk dst g o rs as_) = ⟨fMk rs as_ (opG dst g (.m o)).f⟩ := by
      show OpB.rec (motive := fun _ => OpB) (fun f => ⟨fMk rs as_ f⟩) (opG dst g (.m o)) = _
      cases opG dst g (.m o); rfl
    rw [e1] at h
    exact fMk_ok dst g o rs as_ hc he hs h
  | e2 n₁ a₁ v₁ n₂ a₂ v₂ => exact f2_ok (ck := ck) n₁ a₁ v₁ n₂ a₂ v₂ he hs h
theorem regB_cons (x y : Stp) (l : List Stp) : regB (x :: y :: l) = ⟨fSeq (stpB x).f (regB (y :: l)).f⟩ := by
  show OpB.rec (motive := fun _ => OpB) (fun f => OpB.rec (motive := fun _ => OpB) (fun g => ⟨fSeq f g⟩) (regB (y :: l))) (stpB x) = _
  cases stpB x; cases regB (y :: l); rfl
theorem regB_ok {ck : CallK} {call : Nat → List V → St → Option (V × St)} (hc : CallRel ck call) : ∀ {l : List Stp} {e : EK} {s : KS} {kn : EK → KS → Bool} {t : E} {u : St}, RE e t → RS s u → (regB l).f ck e s kn = true →
    ∃ t' u' e' s', reg call l t u = some (t', u') ∧ RE e' t' ∧ RS s' u' ∧ kn e' s' = true
  | [], e, s, kn, t, u, he, hs, h => ⟨t, u, e, s, rfl, he, hs, h⟩
  | [x], e, s, kn, t, u, he, hs, h => by
    obtain ⟨t1, u1, e1, s1, h1, h2, h3, h4⟩ := stpB_ok x hc he hs (show (stpB x).f ck e s kn = true from h)
    refine ⟨t1, u1, e1, s1, ?_, h2, h3, h4⟩
    show (match stp call t u x with | some (e, s) => reg call [] e s | none => none) = _
    rw [h1]; rfl
  | x :: y :: l, e, s, kn, t, u, he, hs, h => by
    rw [regB_cons] at h
    obtain ⟨t1, u1, e1, s1, h1, h2, h3, h4⟩ := stpB_ok x hc he hs (show (stpB x).f ck e s (fun e s => (regB (y :: l)).f ck e s kn) = true from h)
    obtain ⟨t2, u2, e2, s2, k1, k2, k3, k4⟩ := regB_ok hc h2 h3 h4
    refine ⟨t2, u2, e2, s2, ?_, k2, k3, k4⟩
    show (match stp call t u x with | some (e, s) => reg call (y :: l) e s | none => none) = _
    rw [h1]; exact k1
def Ends (r : Rs) (kn : EK → KS → Bool) (kx : Nat → EK → KS → Bool) (kr : EK → KS → Bool) : Prop :=
  match r with
  | .no t u => ∃ e s, RE e t ∧ RS s u ∧ kn e s = true
  | .ex id t u => ∃ e s, RE e t ∧ RS s u ∧ kx id e s = true
  | .rt t u => ∃ e s, RE e t ∧ RS s u ∧ kr e s = true
  | .bad => False
def CdOk (N : Nat) (m : MC) : Prop :=
  ∀ ck call, CallRel ck call → ∀ e s kn kx kr t u, RE e t → RS s u → (cdB N m).f ck e s kn kx kr = true → Ends (ev call N m t u) kn kx kr
theorem loop_ok {N : Nat} {m : MC} (hm : CdOk N m) {ck : CallK} {call : Nat → List V → St → Option (V × St)} (hc : CallRel ck call) {kn : EK → KS → Bool} {kx : Nat → EK → KS → Bool} {kr : EK → KS → Bool} : ∀ (n : Nat) (e : EK) (s : KS) (t : E) (u : St), RE e t → RS s u →
    Nat.rec (motive := fun _ => EK → KS → Bool) (fun _ _ => false) (fun _ ih e s => (cdB N m).f ck e s ih kx kr) n e s = true →
    Ends (Nat.rec (motive := fun _ => E → St → Rs) (fun _ _ => .bad) (fun _ ih e s => match ev call N m e s with | .no e s => ih e s | r => r) n t u) kn kx kr
  | 0, e, s, t, u, he, hs, h => by cases h
  | n + 1, e, s, t, u, he, hs, h => by
    have h1 := hm ck call hc e s _ kx kr t u he hs h
    show Ends (match ev call N m t u with
      | .no e s => Nat.rec (motive := fun _ => E → St → Rs) (fun _ _ => .bad) (fun _ ih e s => match ev call N m e s with | .no e s => ih e s | r => r) n e s
      | r => r) kn kx kr
    cases hr : ev call N m t u with
    | no t' u' =>
      rw [hr] at h1
      obtain ⟨e', s', k1, k2, k3⟩ := h1
      exact loop_ok hm hc n e' s' t' u' k1 k2 k3
    | ex id t' u' => rw [hr] at h1; exact h1
    | rt t' u' => rw [hr] at h1; exact h1
    | bad => rw [hr] at h1; exact h1
theorem cdB_ok (N : Nat) : ∀ m : MC, CdOk N m
  | .skip => fun ck call hc e s kn kx kr t u he hs h => ⟨e, s, he, hs, h⟩
  | .exit id => fun ck call hc e s kn kx kr t u he hs h => ⟨e, s, he, hs, h⟩
  | .ret => fun ck call hc e s kn kx kr t u he hs h => ⟨e, s, he, hs, h⟩
  | .reg l => fun ck call hc e s kn kx kr t u he hs h => by
    have e1 : cdB N (.reg l) = ⟨kReg (regB l).f⟩ := by
      show OpB.rec (motive := fun _ => CdB) (fun f => ⟨kReg f⟩) (regB l) = _
      cases regB l; rfl
    rw [e1] at h
    obtain ⟨t', u', e', s', h1, h2, h3, h4⟩ := regB_ok hc he hs (show (regB l).f ck e s kn = true from h)
    show Ends (match reg call l t u with | some (e, s) => .no e s | none => .bad) kn kx kr
    rw [h1]
    exact ⟨e', s', h2, h3, h4⟩
  | .seq a b => fun ck call hc e s kn kx kr t u he hs h => by
    have e1 : cdB N (.seq a b) = ⟨kSeq (cdB N a).f (cdB N b).f⟩ := by
      show seqB (cdB N a) (cdB N b) = _
      unfold seqB
      cases cdB N a; cases cdB N b; rfl
    rw [e1] at h
    have h1 := cdB_ok N a ck call hc e s _ kx kr t u he hs (show (cdB N a).f ck e s (fun e s => (cdB N b).f ck e s kn kx kr) kx kr = true from h)
    show Ends (match ev call N a t u with | .no e s => ev call N b e s | r => r) kn kx kr
    cases hr : ev call N a t u with
    | no t' u' =>
      rw [hr] at h1
      obtain ⟨e', s', k1, k2, k3⟩ := h1
      exact cdB_ok N b ck call hc e' s' kn kx kr t' u' k1 k2 k3
    | ex id t' u' => rw [hr] at h1; exact h1
    | rt t' u' => rw [hr] at h1; exact h1
    | bad => rw [hr] at h1; exact h1
  | .cond c a b => fun ck call hc e s kn kx kr t u he hs h => by
    have e1 : cdB N (.cond c a b) = ⟨kCond (gt c).f (cdB N a).f (cdB N b).f⟩ := by
      show condB (gt c) (cdB N a) (cdB N b) = _
      unfold condB
      cases gt c; cases cdB N a; cases cdB N b; rfl
    rw [e1] at h
    obtain ⟨x, hx, h1⟩ := unB_some (show unB ((gt c).f e) (fun x => Bool.rec (motive := fun _ => Bool) ((cdB N b).f ck e s kn kx kr) ((cdB N a).f ck e s kn kx kr) x) = true from h)
    rw [he.gt] at hx
    show Ends (match os t c with | .b x => Bool.rec (ev call N b t u) (ev call N a t u) x | _ => .bad) kn kx kr
    rw [os_of hx]
    cases x with
    | false => exact cdB_ok N b ck call hc e s kn kx kr t u he hs h1
    | true => exact cdB_ok N a ck call hc e s kn kx kr t u he hs h1
  | .blk id m => fun ck call hc e s kn kx kr t u he hs h => by
    have e1 : cdB N (.blk id m) = ⟨kBlk id (cdB N m).f⟩ := by
      show blkB id (cdB N m) = _
      unfold blkB
      cases cdB N m; rfl
    rw [e1] at h
    have h1 := cdB_ok N m ck call hc e s kn _ kr t u he hs (show (cdB N m).f ck e s kn (fun i e s => Bool.rec (motive := fun _ => Bool) (kx i e s) (kn e s) (Nat.beq i id)) kr = true from h)
    show Ends (match ev call N m t u with | .ex id' e s => bif Nat.beq id' id then .no e s else .ex id' e s | r => r) kn kx kr
    cases hr : ev call N m t u with
    | no t' u' => rw [hr] at h1; exact h1
    | ex i t' u' =>
      rw [hr] at h1
      obtain ⟨e', s', k1, k2, k3⟩ := h1
      show Ends (bif Nat.beq i id then .no t' u' else .ex i t' u') kn kx kr
      have k3' : Bool.rec (motive := fun _ => Bool) (kx i e' s') (kn e' s') (Nat.beq i id) = true := k3
      cases hb : Nat.beq i id with
      | true => rw [hb] at k3'; exact ⟨e', s', k1, k2, k3'⟩
      | false => rw [hb] at k3'; exact ⟨e', s', k1, k2, k3'⟩
    | rt t' u' => rw [hr] at h1; exact h1
    | bad => rw [hr] at h1; exact h1
  | .loop m => fun ck call hc e s kn kx kr t u he hs h => by
    have e1 : cdB N (.loop m) = ⟨kLoop N (cdB N m).f⟩ := by
      show loopB N (cdB N m) = _
      unfold loopB
      cases cdB N m; rfl
    rw [e1] at h
    exact loop_ok (cdB_ok N m) hc N e s t u he hs h
theorem resv_some {e : EK} {s : KS} {t : E} {u : St} (he : RE e t) (hs : RS s u) {r : MRes} {v : V} (h : resvK e s r = some v) : resv t u r = some v := by
  cases r with
  | t i =>
    have h' : (match look e (.t i) with | .t _ => none | v => some v) = some v := h
    rw [he] at h'
    exact h'
  | c n i =>
    have h' : ldvK s n (osR (look e) (.t i)) = some v := h
    rw [he] at h'
    exact hs.ldv h'
theorem resL_some {e : EK} {s : KS} {t : E} {u : St} (he : RE e t) (hs : RS s u) : ∀ {l : List MRes} {vs : List V}, resLK e s l = some vs → resL t u l = some vs
  | [], vs, h => h
  | x :: l, vs, h => by
    have h' : (match resvK e s x, resLK e s l with | some v, some l => some (v :: l) | _, _ => none) = some vs := h
    show (match resv t u x, resL t u l with | some v, some l => some (v :: l) | _, _ => none) = some vs
    split at h'
    · rename_i v l' h1 h2
      rw [resv_some he hs h1, resL_some he hs h2]; exact h'
    · cases h'
theorem resK_some {e : EK} {s : KS} {t : E} {u : St} (he : RE e t) (hs : RS s u) {l : List MRes} {k : V → KS → Bool} (h : resK l e s k = true) : ∃ v, results t u l = some (v, u) ∧ k v s = true := by
  unfold resK at h
  unfold results
  split at h
  · rename_i v hv
    rw [resL_some he hs hv]; exact ⟨v, rfl, h⟩
  · rename_i l' hne hv
    rw [resL_some he hs hv]
    refine ⟨.t l', ?_, h⟩
    split
    · rename_i v hh; simp only [Option.some.injEq] at hh; exact absurd hh (hne v)
    · rename_i l2 _ hh; simp only [Option.some.injEq] at hh; rw [hh]
    · rename_i hh; cases hh
  · cases h
theorem res1_some {e : EK} {s : KS} {t : E} {u : St} (he : RE e t) {i : Nat} {k : V → KS → Bool} (h : res1 (gt (.t i)).f e s k = true) : ∃ v, results t u [.t i] = some (v, u) ∧ k v s = true := by
  have hx := he.gt (.t i)
  have h' : @V.rec (fun _ => Bool) (fun _ => Bool) (k ((gt (.t i)).f e) s) (fun _ => k ((gt (.t i)).f e) s) (fun _ => k ((gt (.t i)).f e) s) (fun _ _ => false) false (fun _ _ _ _ => false) ((gt (.t i)).f e) = true := h
  have goal : ∀ v, ov t (.t i) = v → (match v with | .t _ => none | v => some v) = some v → k v s = true → ∃ v, results t u [.t i] = some (v, u) ∧ k v s = true := by
    intro v hv hr hk
    refine ⟨v, ?_, hk⟩
    have e1 : resv t u (.t i) = some v := by
      show (match ov t (.t i) with | .t _ => none | v => some v) = some v
      rw [hv]; exact hr
    have e2 : resL t u [.t i] = some [v] := by
      show (match resv t u (.t i), resL t u [] with | some v, some l => some (v :: l) | _, _ => none) = _
      rw [e1]; rfl
    unfold results
    rw [e2]
  cases hq : (gt (.t i)).f e with
  | o => rw [hq] at h' hx; exact goal _ hx.symm rfl h'
  | c c => rw [hq] at h' hx; exact goal _ hx.symm rfl h'
  | a l => rw [hq] at h' hx; exact goal _ hx.symm rfl h'
  | t l => rw [hq] at h'; cases h'
theorem res_some {e : EK} {s : KS} {t : E} {u : St} (he : RE e t) (hs : RS s u) {l : List MRes} {k : V → KS → Bool} (h : (resB l).f e s k = true) : ∃ v, results t u l = some (v, u) ∧ k v s = true := by
  have e1 : ∀ i, resB [.t i] = ⟨res1 (gt (.t i)).f⟩ := fun i => by
    show Gt.rec (motive := fun _ => ResB) (fun g => ⟨res1 g⟩) (gt (.t i)) = _
    cases gt (.t i); rfl
  match l, h with
  | [.t i], h => rw [e1] at h; exact res1_some he h
  | [], h => exact resK_some he hs h
  | [.c n i], h => exact resK_some he hs h
  | a :: b :: l, h =>
    have e2 : resB (a :: b :: l) = ⟨resK (a :: b :: l)⟩ := by cases a <;> rfl
    rw [e2] at h
    exact resK_some he hs h
theorem init_some : ∀ {vs : List V} {i : Nat} {k : EK → Bool}, initK vs i k = true → ∃ e, RE e (initE vs i) ∧ k e = true
  | [], i, k, h => ⟨EK.zero, RE.zero, h⟩
  | v :: vs, i, k, h => by
    obtain ⟨e, h1, h2⟩ := init_some (show initK vs (Nat.succ i) (fun e => (pt (some i)).f v e k) = true from h)
    obtain ⟨e', h3, h4⟩ := h1.put h2
    exact ⟨e', h3, h4⟩
theorem fnK_ok {tbl : T MFn} {N : Nat} {ext : CallK} {xt : Nat → List V → St → Option (V × St)} (hx : CallRel ext xt) : ∀ d, CallRel (fnK tbl N ext d) (fn tbl N xt d)
  | 0 => fun g vs s k u hs h => by cases h
  | d + 1 => fun g vs s k u hs h => by
    have ih := fnK_ok (tbl := tbl) (N := N) hx d
    have h' : (fnB tbl N ext g).f (fnK tbl N ext d) vs s k = true := h
    unfold fnB at h'
    have goal : ∀ {q}, (match tbl.get g with
      | none => xt g vs u
      | some f => match ev (fn tbl N xt d) N f.body (initE vs 0) u with
        | .no e s => results e s f.res
        | .rt e s => results e s f.res
        | _ => none) = q → fn tbl N xt (d + 1) g vs u = q := fun h => h
    split at h'
    · rename_i hg
      rw [hg] at goal
      obtain ⟨v, s', u', h1, h2, h3⟩ := hx g vs s k u hs h'
      exact ⟨v, s', u', goal h1, h2, h3⟩
    · rename_i f hg
      rw [hg] at goal
      have e1 : (CdB.rec (motive := fun _ => FnB) (fun c => ResB.rec (motive := fun _ => FnB) (fun r => ⟨fFn c r⟩) (resB f.res)) (cdB N f.body) : FnB) = ⟨fFn (cdB N f.body).f (resB f.res).f⟩ := by
        cases cdB N f.body; cases resB f.res; rfl
      rw [e1] at h'
      obtain ⟨e, h1, h2⟩ := init_some (show initK vs 0 (fun e => (cdB N f.body).f (fnK tbl N ext d) e s (fun e s => (resB f.res).f e s k) (fun _ _ _ => false) (fun e s => (resB f.res).f e s k)) = true from h')
      have h3 := cdB_ok N f.body _ _ ih e s _ _ _ _ u h1 hs h2
      cases hr : ev (fn tbl N xt d) N f.body (initE vs 0) u with
      | no t' u' =>
        rw [hr] at h3
        obtain ⟨e', s', k1, k2, k3⟩ := h3
        obtain ⟨v, k4, k5⟩ := res_some k1 k2 k3
        refine ⟨v, s', u', goal ?_, k2, k5⟩
        simp only [hr]; exact k4
      | rt t' u' =>
        rw [hr] at h3
        obtain ⟨e', s', k1, k2, k3⟩ := h3
        obtain ⟨v, k4, k5⟩ := res_some k1 k2 k3
        refine ⟨v, s', u', goal ?_, k2, k5⟩
        simp only [hr]; exact k4
      | ex id t' u' => rw [hr] at h3; obtain ⟨_, _, _, _, k3⟩ := h3; cases k3
      | bad => rw [hr] at h3; exact h3.elim
end Go.Ev
end
section
set_option linter.unusedVariables false
set_option linter.unusedSimpArgs false
set_option maxRecDepth 20000
namespace Go.Ev
open Go
structure Inf where
  o : Oper
  x : MO
  g : Option (Nat × Bool)
def Inf.ts (a : Inf) : List Nat := gT a.g ++ moT a.x
def isM : MO → Bool
  | .m _ => true
  | _ => false
def isRA : MO → Bool
  | .r _ => true
  | .a _ => true
  | _ => false
def memD (d : Option Nat) (l : List Nat) : Bool :=
  match d with
  | none => false
  | some t => l.contains t
def maskE (acc : List Nat) (es : List Edge) : Nat := es.foldl (fun s e => if Region.binds .any e then s ||| (2 ^ e.on ||| acc.getD e.on 0) else s) 0
def clsL : List Oper → List Nat → List Nat
  | [], acc => acc
  | o :: l, acc => clsL l (acc ++ [maskE acc o.after.toList])
def bt (cls : List Nat) (i j : Nat) : Bool := (cls.getD i 0).testBit j
def pairOk (infs : List Inf) (cls : List Nat) (prs : List (Nat × Nat)) (i j : Nat) : Bool :=
  match infs[i]?, infs[j]? with
  | some a, some c =>
    !(Nat.beq i j) && !(bt cls i j) &&
    (!(isM a.x) || (bt cls j i || prs.contains (i, j))) &&
    (match a.o.dst, c.o.dst with | some d, some d' => d != d' | _, _ => true) &&
    (!(memD a.o.dst c.ts) || bt cls j i) &&
    (!(memD c.o.dst a.ts) || (bt cls j i && !(isRA a.x)))
  | _, _ => false
def selfOk (infs : List Inf) (cls : List Nat) (i : Nat) : Bool :=
  match infs[i]? with
  | some a => !(bt cls i i) && !(memD a.o.dst a.ts) && (!(isRA a.x) || a.o.dst.isSome)
  | none => false
def pairsOk (f : Nat → Nat → Bool) : List Nat → Bool
  | [] => true
  | i :: l => l.all (f i) && pairsOk f l
def topoOk (infs : List Inf) : List Nat → List Nat → Bool
  | _, [] => true
  | pre, i :: l => (match infs[i]? with
    | some a => a.o.after.toList.all fun e => !(Region.binds .any e) || pre.contains e.on
    | none => false) && topoOk infs (pre ++ [i]) l
def opsOf : List HS → List Nat
  | [] => []
  | .ev i :: l => i :: opsOf l
  | .e2 i j :: l => i :: j :: opsOf l
def prsOf : List HS → List (Nat × Nat)
  | [] => []
  | .ev _ :: l => prsOf l
  | .e2 i j :: l => (i, j) :: prsOf l
def rsOf (infs : List Inf) (cls : List Nat) (m : Nat) : List Nat → List (Nat × R)
  | [] => []
  | i :: l => match infs[i]? with
    | some a => match a.x, a.o.dst with
      | .r y, some d => if bt cls m i then rsOf infs cls m l else (d, y) :: rsOf infs cls m l
      | _, _ => rsOf infs cls m l
    | none => rsOf infs cls m l
def asOf (infs : List Inf) (cls : List Nat) (m : Nat) : List Nat → List (Nat × A)
  | [] => []
  | i :: l => match infs[i]? with
    | some a => match a.x, a.o.dst with
      | .a y, some d => if bt cls m i then asOf infs cls m l else (d, y) :: asOf infs cls m l
      | _, _ => asOf infs cls m l
    | none => asOf infs cls m l
def raOk (infs : List Inf) (cls : List Nat) (i j : Nat) (pre : List Nat) : Bool :=
  pre.all fun k => match infs[k]? with | some a => !(isRA a.x) || (bt cls i k && bt cls j k) | none => false
def stepsOf (infs : List Inf) (cls : List Nat) : List Nat → List HS → Option (List Stp)
  | _, [] => some []
  | pre, .ev i :: l => match infs[i]?, stepsOf infs cls (pre ++ [i]) l with
    | some a, some st => match a.x with
      | .m x => if (opsOf l).all (fun q => bt cls q i) then some (.mk a.o.dst a.g x (rsOf infs cls i pre) (asOf infs cls i pre) :: st) else none
      | x => some (.ev a.o.dst a.g x :: st)
    | _, _ => none
  | pre, .e2 i j :: l => match infs[i]?, infs[j]?, stepsOf infs cls (pre ++ [i, j]) l with
    | some a, some c, some st => match a.x, a.g, a.o.dst, c.x, c.g, c.o.dst with
      | .m (.st n₁ a₁ v₁), none, none, .m (.st n₂ a₂ v₂), none, none => if raOk infs cls i j pre && (opsOf l).all (fun q => bt cls q i && bt cls q j) then some (.e2 n₁ a₁ v₁ n₂ a₂ v₂ :: st) else none
      | _, _, _, _, _, _ => none
    | _, _, _ => none
section
variable (ty : TypeId → Option TyI) (ibs : FuncId → Bool) (nt : Nat)
noncomputable def infOf (ops : Array Oper) (o : Oper) : Option Inf :=
  match cGuard ops o.guard, cMO ty ibs o.op with
  | some g, some x => if dstOk nt o.dst then some ⟨o, x, g⟩ else none
  | _, _ => none
noncomputable def infsOf (ops : Array Oper) : List Oper → Option (List Inf)
  | [] => some []
  | o :: l => match infOf ty ibs nt ops o, infsOf ops l with
    | some a, some m => some (a :: m)
    | _, _ => none
def permOk (n : Nat) (l : List Nat) : Bool := l.all (fun i => Nat.blt i n) && (List.range n).all fun i => l.contains i
noncomputable def cDraw (ops : Array Oper) (h : List HS) : Option (List Stp) :=
  match infsOf ty ibs nt ops ops.toList with
  | none => none
  | some infs =>
    let cls := clsL ops.toList []
    if permOk ops.size (opsOf h) && pairsOk (pairOk infs cls (prsOf h)) (opsOf h) && (opsOf h).all (selfOk infs cls) && topoOk infs [] (opsOf h) then stepsOf infs cls [] h else none
end
inductive Dep (ops : Array Oper) : Nat → Nat → Prop where
  | one {i j : Nat} {o : Oper} {e : Edge} : ops[i]? = some o → e ∈ o.after → Region.binds .any e = true → e.on = j → Dep ops i j
  | more {i k j : Nat} {o : Oper} {e : Edge} : ops[i]? = some o → e ∈ o.after → Region.binds .any e = true → e.on = k → Dep ops k j → Dep ops i j
theorem mask_dep {ops : Array Oper} {acc : List Nat} (hacc : ∀ i j, bt acc i j = true → Dep ops i j) {i : Nat} {o : Oper} (hi : ops[i]? = some o) :
    ∀ (es : List Edge) (s : Nat), (∀ e ∈ es, e ∈ o.after) → (∀ j, s.testBit j = true → Dep ops i j) → ∀ j, (es.foldl (fun s e => if Region.binds .any e then s ||| (2 ^ e.on ||| acc.getD e.on 0) else s) s).testBit j = true → Dep ops i j
  | [], s, _, hs, j, h => hs j h
  | e :: es, s, he, hs, j, h => by
    simp only [List.foldl_cons] at h
    refine mask_dep hacc hi es _ (fun e' h' => he e' (List.mem_cons_of_mem _ h')) ?_ j h
    intro k hk
    split at hk
    · rename_i hb
      rw [Nat.testBit_or, Nat.testBit_or, Bool.or_eq_true, Bool.or_eq_true] at hk
      rcases hk with hk | hk | hk
      · exact hs k hk
      · rw [Nat.testBit_two_pow] at hk
        exact .one hi (he e (List.mem_cons_self ..)) hb (by simpa using hk)
      · exact .more hi (he e (List.mem_cons_self ..)) hb rfl (hacc _ _ hk)
    · exact hs k hk
theorem clsL_dep {ops : Array Oper} : ∀ (l : List Oper) (acc : List Nat), ops.toList.drop acc.length = l → (∀ i j, bt acc i j = true → Dep ops i j) → ∀ i j, bt (clsL l acc) i j = true → Dep ops i j
  | [], acc, _, hacc, i, j, h => hacc i j h
  | o :: l, acc, hl, hacc, i, j, h => by
    have hi : ops[acc.length]? = some o := by
      have h1 : (ops.toList.drop acc.length)[0]? = some o := by rw [hl]; rfl
      rw [List.getElem?_drop] at h1
      simpa using h1
    refine clsL_dep l (acc ++ [maskE acc o.after.toList]) ?_ ?_ i j h
    · rw [List.length_append, List.length_singleton, ← List.drop_drop, hl]; rfl
    · intro i j h
      unfold bt at h
      by_cases hlt : i < acc.length
      · refine hacc i j ?_
        unfold bt
        rwa [List.getD_eq_getElem?_getD, List.getElem?_append_left hlt, ← List.getD_eq_getElem?_getD] at h
      · by_cases he : i = acc.length
        · subst he
          rw [List.getD_eq_getElem?_getD, List.getElem?_append_right (Nat.le_refl _)] at h
          simp only [Nat.sub_self, List.getElem?_cons_zero, Option.getD_some] at h
          exact mask_dep hacc hi o.after.toList 0 (fun e he => by simpa using he) (fun j hj => by simp at hj) j h
        · rw [List.getD_eq_getElem?_getD, List.getElem?_eq_none (by simp; omega)] at h
          simp at h
theorem bt_dep {ops : Array Oper} {i j : Nat} (h : bt (clsL ops.toList []) i j = true) : Dep ops i j :=
  clsL_dep ops.toList [] (by simp) (fun i j h => by simp [bt] at h) i j h
theorem infsOf_get {ty : TypeId → Option TyI} {ibs : FuncId → Bool} {nt : Nat} {ops : Array Oper} : ∀ {l : List Oper} {m : List Inf}, infsOf ty ibs nt ops l = some m → ∀ (i : Nat) (a : Inf), m[i]? = some a →
    l[i]? = some a.o ∧ cGuard ops a.o.guard = some a.g ∧ cMO ty ibs a.o.op = some a.x ∧ dstOk nt a.o.dst = true
  | [], m, h, i, a, ha => by
    simp only [infsOf, Option.some.injEq] at h; subst h; simp at ha
  | o :: l, m, h, i, a, ha => by
    unfold infsOf at h
    split at h
    · rename_i b m' h1 h2
      simp only [Option.some.injEq] at h; subst h
      cases i with
      | zero =>
        simp only [List.getElem?_cons_zero, Option.some.injEq] at ha; subst ha
        unfold infOf at h1
        split at h1
        · rename_i g x hg hx
          split at h1
          · rename_i hd
            simp only [Option.some.injEq] at h1; subst h1
            exact ⟨rfl, hg, hx, hd⟩
          · simp at h1
        · simp at h1
      | succ i =>
        simp only [List.getElem?_cons_succ] at ha ⊢
        exact infsOf_get h2 i a ha
    · simp at h
theorem pairs_mem {f : Nat → Nat → Bool} : ∀ {l : List Nat}, pairsOk f l = true → ∀ {pre rest : List Nat}, l = pre ++ rest → ∀ i ∈ pre, ∀ j ∈ rest, f i j = true
  | [], _, pre, rest, h, i, hi, j, hj => by
    cases pre with
    | nil => simp at hi
    | cons y pre => simp at h
  | x :: l, hp, pre, rest, h, i, hi, j, hj => by
    simp only [pairsOk, Bool.and_eq_true, List.all_eq_true] at hp
    cases pre with
    | nil => simp at hi
    | cons y pre =>
      simp only [List.cons_append, List.cons.injEq] at h
      obtain ⟨rfl, rfl⟩ := h
      rcases List.mem_cons.1 hi with rfl | hi
      · exact hp.1 j (List.mem_append_right _ hj)
      · exact pairs_mem hp.2 rfl i hi j hj
theorem pairs_any {f : Nat → Nat → Bool} : ∀ {l : List Nat}, pairsOk f l = true → ∀ i ∈ l, ∀ j ∈ l, i ≠ j → f i j = true ∨ f j i = true
  | [], _, i, hi, _, _, _ => by simp at hi
  | x :: l, hp, i, hi, j, hj, hne => by
    simp only [pairsOk, Bool.and_eq_true, List.all_eq_true] at hp
    rcases List.mem_cons.1 hi with e1 | hi'
    · rcases List.mem_cons.1 hj with e2 | hj'
      · exact absurd (e1.trans e2.symm) hne
      · exact .inl (e1 ▸ hp.1 j hj')
    · rcases List.mem_cons.1 hj with e2 | hj'
      · exact .inr (e2 ▸ hp.1 i hi')
      · exact pairs_any hp.2 i hi' j hj' hne
theorem perm_facts {n : Nat} {l : List Nat} (h : permOk n l = true) : (∀ i, i < n → i ∈ l) ∧ (∀ i ∈ l, i < n) := by
  unfold permOk at h
  simp only [Bool.and_eq_true, List.all_eq_true, List.mem_range, List.contains_iff_mem] at h
  exact ⟨h.2, fun i hi => by have : Nat.ble (i + 1) n = true := h.1 i hi; exact Nat.le_of_ble_eq_true this⟩
theorem nodup_of {f : Nat → Nat → Bool} (hf : ∀ i j, f i j = true → i ≠ j) : ∀ {l : List Nat}, pairsOk f l = true → l.Nodup
  | [], _ => List.nodup_nil
  | x :: l, hp => by
    simp only [pairsOk, Bool.and_eq_true, List.all_eq_true] at hp
    exact List.nodup_cons.2 ⟨fun hx => hf x x (hp.1 x hx) rfl, nodup_of hf hp.2⟩
theorem pair_facts {infs : List Inf} {cls : List Nat} {prs : List (Nat × Nat)} {i j : Nat} (h : pairOk infs cls prs i j = true) :
    ∃ a c, infs[i]? = some a ∧ infs[j]? = some c ∧ i ≠ j ∧ bt cls i j = false ∧ (isM a.x = true → bt cls j i = true ∨ (i, j) ∈ prs) ∧ (∀ d, a.o.dst = some d → c.o.dst ≠ some d) ∧
      (∀ d, a.o.dst = some d → d ∈ c.ts → bt cls j i = true) ∧ (∀ d, c.o.dst = some d → d ∈ a.ts → bt cls j i = true ∧ isRA a.x = false) := by
  unfold pairOk at h
  split at h
  · rename_i a c ha hc
    simp only [Bool.and_eq_true, Bool.not_eq_true', Bool.or_eq_true, nbeq, beq_eq_false_iff_ne, List.contains_iff_mem] at h
    obtain ⟨⟨⟨⟨⟨h1, h2⟩, h3⟩, h4⟩, h5⟩, h6⟩ := h
    refine ⟨a, c, ha, hc, h1, h2, fun hm => ?_, fun d hd hd' => ?_, fun d hd hm => ?_, fun d hd hm => ?_⟩
    · rcases h3 with h3 | h3
      · rw [hm] at h3; simp at h3
      · exact h3
    · rw [hd, hd'] at h4; simp at h4
    · rcases h5 with h5 | h5
      · simp only [memD, hd] at h5
        rw [List.contains_eq_mem] at h5
        simp only [decide_eq_false_iff_not] at h5
        exact absurd hm h5
      · exact h5
    · rcases h6 with h6 | h6
      · simp only [memD, hd] at h6
        rw [List.contains_eq_mem] at h6
        simp only [decide_eq_false_iff_not] at h6
        exact absurd hm h6
      · exact h6
  · simp at h
theorem topo_facts {infs : List Inf} : ∀ {l pre0 : List Nat}, topoOk infs pre0 l = true → ∀ {pre rest : List Nat} {i : Nat}, l = pre ++ i :: rest → ∀ a, infs[i]? = some a → ∀ e ∈ a.o.after, Region.binds .any e = true → e.on ∈ pre0 ++ pre
  | [], pre0, _, pre, rest, i, h, _, _, _, _, _ => by simp at h
  | x :: l, pre0, ht, pre, rest, i, h, a, ha, e, he, hb => by
    simp only [topoOk, Bool.and_eq_true] at ht
    cases pre with
    | nil =>
      simp only [List.nil_append, List.cons.injEq] at h
      obtain ⟨rfl, rfl⟩ := h
      have h1 := ht.1
      rw [ha] at h1
      simp only [List.all_eq_true, Bool.or_eq_true, Bool.not_eq_true', List.contains_iff_mem] at h1
      rcases h1 e (by simpa using he) with h2 | h2
      · rw [hb] at h2; cases h2
      · rw [List.append_nil]; exact h2
    | cons y pre =>
      simp only [List.cons_append, List.cons.injEq] at h
      obtain ⟨rfl, rfl⟩ := h
      have := topo_facts ht.2 rfl a ha e he hb
      simpa using this
theorem self_facts {infs : List Inf} {cls : List Nat} {i : Nat} (h : selfOk infs cls i = true) :
    ∃ a, infs[i]? = some a ∧ bt cls i i = false ∧ (∀ d, a.o.dst = some d → d ∉ a.ts) ∧ (isRA a.x = true → ∃ d, a.o.dst = some d) := by
  unfold selfOk at h
  split at h
  · rename_i a ha
    simp only [Bool.and_eq_true, Bool.not_eq_true', Bool.or_eq_true] at h
    obtain ⟨⟨h1, h2⟩, h3⟩ := h
    refine ⟨a, ha, h1, fun d hd hm => ?_, fun hr => ?_⟩
    · simp only [memD, hd] at h2
      rw [List.contains_eq_mem] at h2
      simp only [decide_eq_false_iff_not] at h2
      exact h2 hm
    · rcases h3 with h3 | h3
      · rw [hr] at h3; simp at h3
      · exact Option.isSome_iff_exists.1 h3
  · simp at h
end Go.Ev
end
