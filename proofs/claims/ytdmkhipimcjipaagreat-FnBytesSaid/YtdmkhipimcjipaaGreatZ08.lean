/- Parts of the proof of FnBytes. -/
import Derived.Test.YtdmkhipimcjipaaGreatZ07
set_option linter.unusedVariables false
set_option linter.unusedSimpArgs false
set_option linter.unusedVariables false
set_option linter.unusedSimpArgs false
set_option maxRecDepth 20000
namespace Go.Ev
open Go
def CallRel (ck : CallK) (call : Nat → List V → St → Option (V × St)) : Prop :=
  ∀ g vs s k u, RS s u → ck g vs s k = true → ∃ v s' u', call g vs u = some (v, u') ∧ RS s' u' ∧ k v s' = true
def OpOk (f : OpB) (dst : Option Nat) (o : MO) : Prop :=
  ∀ ck call, CallRel ck call → ∀ e s k t u, RE e t → RS s u → f.f ck e s k = true →
    ∃ v u' e' s', mo call t u o = some (v, u') ∧ RE e' (put t dst v) ∧ RS s' u' ∧ k e' s' = true
theorem with0_f (d : Pt) (f : PtF → OpF) : with0 d f = ⟨f d.f⟩ := by cases d; rfl
theorem with1_f (x : Gt) (d : Pt) (f : GtF → PtF → OpF) : with1 x d f = ⟨f x.f d.f⟩ := by cases x; cases d; rfl
theorem with2_f (x y : Gt) (d : Pt) (f : GtF → GtF → PtF → OpF) : with2 x y d f = ⟨f x.f y.f d.f⟩ := by cases x; cases y; cases d; rfl
theorem with3_f (x y z : Gt) (d : Pt) (f : GtF → GtF → GtF → PtF → OpF) : with3 x y z d f = ⟨f x.f y.f z.f d.f⟩ := by cases x; cases y; cases z; cases d; rfl
theorem withs_f (xs : Gts) (d : Pt) (f : List GtF → PtF → OpF) : withs xs d f = ⟨f xs.l d.f⟩ := by cases xs; cases d; rfl
theorem args_eq {e : EK} {t : E} (he : RE e t) : ∀ xs : List O, argsK e (gts xs).l = ovs t xs
  | [] => rfl
  | x :: xs => by
    have ih := args_eq he xs
    have e1 : (gts (x :: xs)).l = (gt x).f :: (gts xs).l := by
      show (Gt.rec (motive := fun _ => Gts) (fun g => Gts.rec (motive := fun _ => Gts) (fun l => ⟨g :: l⟩) (gts xs)) (gt x) : Gts).l = _
      cases gt x; cases gts xs; rfl
    rw [e1]
    show (gt x).f e :: argsK e (gts xs).l = ov t x :: ovs t xs
    rw [ih, he.gt]
theorem os_of {t : E} {x : O} {a : S} (h : ov t x = .c a) : os t x = a := by unfold os; rw [h]
theorem w_fin {dst : Option Nat} {w : W} {call : Nat → List V → St → Option (V × St)} {e : EK} {s : KS} {k : EK → KS → Bool} {t : E} {u : St} (he : RE e t) (hs : RS s u) {v : V} (hv : wv t w = some v)
    (hk : (pt dst).f v e (fun e => k e s) = true) : ∃ v u' e' s', mo call t u (.w w) = some (v, u') ∧ RE e' (put t dst v) ∧ RS s' u' ∧ k e' s' = true := by
  obtain ⟨e', h1, h2⟩ := he.put hk
  refine ⟨v, u, e', s, ?_, h1, hs, h2⟩
  show (match wv t w with | some v => some (v, u) | none => none) = _
  rw [hv]
theorem wv_bin (t : E) (op : BinOp) (x y : O) : wv t (.bin op x y) = binV op (os t x) (os t y) := rfl
theorem fW_ok (w : W) (dst : Option Nat) : OpOk ⟨fW w (pt dst).f⟩ dst (.w w) := by
  intro ck call hc e s k t u he hs h
  have h' : vk (wvR (look e) w) (fun v => (pt dst).f v e fun e => k e s) = true := h
  rw [he, wvR_eq] at h'
  obtain ⟨v, h1, h2⟩ := vk_some h'
  exact w_fin he hs h1 h2
theorem fMv_ok (x : O) (dst : Option Nat) : OpOk ⟨fMv (gt x).f (pt dst).f⟩ dst (.w (.mv x)) := by
  intro ck call hc e s k t u he hs h
  have h' : (pt dst).f ((gt x).f e) e (fun e => k e s) = true := h
  rw [he.gt] at h'
  exact w_fin he hs rfl h'
theorem fBin_ok (op : BinOp) (x y : O) (dst : Option Nat) : OpOk ⟨fBin op (bf op).f (gt x).f (gt y).f (pt dst).f⟩ dst (.w (.bin op x y)) := by
  intro ck call hc e s k t u he hs h
  obtain ⟨a, ha, h⟩ := unC_some (show unC ((gt x).f e) _ = true from h)
  obtain ⟨b, hb, h⟩ := unC_some h
  rw [he.gt] at ha hb
  have hw : wv t (.bin op x y) = binV op a b := by rw [wv_bin, os_of ha, os_of hb]
  cases a with
  | i m =>
    cases b with
    | i n =>
      obtain ⟨v, h1, h2⟩ := bf_some h
      exact w_fin he hs (hw.trans h1) h2
    | j j n =>
      obtain ⟨v, h1, h2⟩ := vk_some h
      exact w_fin he hs (hw.trans h1) h2
    | _ => cases h
  | j j m =>
    obtain ⟨v, h1, h2⟩ := vk_some h
    exact w_fin he hs (hw.trans h1) h2
  | s l =>
    obtain ⟨v, h1, h2⟩ := vk_some h
    exact w_fin he hs (hw.trans h1) h2
  | _ => cases h
theorem fFad_ok (off : Nat) (x : O) (dst : Option Nat) : OpOk ⟨fFad off (gt x).f (pt dst).f⟩ dst (.w (.fad off x)) := by
  intro ck call hc e s k t u he hs h
  obtain ⟨a, b, ha, h⟩ := unP_some (show unP ((gt x).f e) _ = true from h)
  rw [he.gt] at ha
  have hw : wv t (.fad off x) = some (.c (.p a (Nat.add b off))) := by
    show (match os t x with | .p a b => some (V.c (.p a (Nat.add b off))) | _ => none) = _
    rw [os_of ha]
  exact w_fin he hs hw h
theorem fFld_ok (off : Nat) (x : O) (dst : Option Nat) : OpOk ⟨fFld off (gt x).f (pt dst).f⟩ dst (.w (.fld off none x)) := by
  intro ck call hc e s k t u he hs h
  obtain ⟨l, ha, h⟩ := unA_some (show unA ((gt x).f e) _ = true from h)
  obtain ⟨c, hc', h⟩ := cellAt_some h
  rw [he.gt] at ha
  have hw : wv t (.fld off none x) = some (.c c) := by
    show (match ov t x with | .a l => (match lget l off with | some s => some (V.c s) | none => none) | _ => none) = _
    rw [ha]
    simp only [lget_eq, hc']
  exact w_fin he hs hw h
theorem natI_some {i : Int} {k : Nat → Bool} (h : natI i k = true) : ∃ n, i = .ofNat n ∧ k n = true := by
  cases i with
  | ofNat n => exact ⟨n, rfl, h⟩
  | negSucc n => cases h
theorem unN_some {v : V} {k : Nat → Bool} (h : unN v k = true) : ∃ s n, v = .c s ∧ (s = .i (.ofNat n) ∨ ∃ q, s = .j q (.ofNat n)) ∧ k n = true := by
  obtain ⟨s, rfl, h⟩ := unC_some h
  cases s with
  | i i => obtain ⟨n, rfl, h⟩ := natI_some h; exact ⟨_, n, rfl, .inl rfl, h⟩
  | j q i => obtain ⟨n, rfl, h⟩ := natI_some h; exact ⟨_, n, rfl, .inr ⟨q, rfl⟩, h⟩
  | _ => cases h
theorem onj_of {t : E} {y : O} {s : S} {n : Nat} (h : ov t y = .c s) (hs : s = .i (.ofNat n) ∨ ∃ q, s = .j q (.ofNat n)) : onj t y = some n := by
  unfold onj
  rcases hs with rfl | ⟨q, rfl⟩ <;> rw [os_of h]
theorem unS_some {v : V} {k : List Nat → Bool} (h : unS v k = true) : ∃ l, v = .c (.s l) ∧ k l = true := by
  obtain ⟨s, rfl, h⟩ := unC_some h
  cases s with
  | s l => exact ⟨l, rfl, h⟩
  | _ => cases h
theorem fIad_ok (sz : Nat) (x y : O) (dst : Option Nat) : OpOk ⟨fIad sz (gt x).f (gt y).f (pt dst).f⟩ dst (.w (.iad sz x y)) := by
  intro ck call hc e s k t u he hs h
  obtain ⟨bl, o, n, sz', fl, ha, h⟩ := unL_some (show unL ((gt x).f e) _ = true from h)
  obtain ⟨q, i, hi, hq, h⟩ := unN_some h
  rw [he.gt] at ha hi
  have h' : Bool.rec (motive := fun _ => Bool) false (force (Nat.add o (Nat.mul i sz)) fun c => (pt dst).f (.c (.p bl c)) e fun e => k e s) (Nat.beq sz sz' && Nat.ble (Nat.succ i) n) = true := h
  cases hb : (Nat.beq sz sz' && Nat.ble (Nat.succ i) n) with
  | false => rw [hb] at h'; cases h'
  | true =>
    rw [hb] at h'
    have hw : wv t (.iad sz x y) = some (.c (.p bl (Nat.add o (Nat.mul i sz)))) := by
      show (match os t x with
        | .l bl o n sz' _ => (match onj t y with
          | some i => bif Nat.beq sz sz' && Nat.ble (Nat.succ i) n then some (V.c (.p bl (Nat.add o (Nat.mul i sz)))) else none
          | none => none)
        | _ => none) = _
      rw [os_of ha, onj_of hi hq]
      show (bif Nat.beq sz sz' && Nat.ble (Nat.succ i) n then some (V.c (.p bl (Nat.add o (Nat.mul i sz)))) else none) = _
      rw [hb]; rfl
    exact w_fin he hs hw h'
theorem fIxs_ok (x y : O) (dst : Option Nat) : OpOk ⟨fIxs (gt x).f (gt y).f (pt dst).f⟩ dst (.w (.ixs x y)) := by
  intro ck call hc e s k t u he hs h
  obtain ⟨l, ha, h⟩ := unS_some (show unS ((gt x).f e) _ = true from h)
  obtain ⟨q, i, hi, hq, h⟩ := unN_some h
  obtain ⟨b, hb, h⟩ := atK_some h
  rw [he.gt] at ha hi
  have hw : wv t (.ixs x y) = some (.c (.j .u8 (.ofNat b))) := by
    show (match os t x with
      | .s l => (match onj t y with
        | some i => (match lget l i with | some b => some (V.c (.j .u8 (.ofNat b))) | none => none)
        | none => none)
      | _ => none) = _
    rw [os_of ha, onj_of hi hq]
    show (match lget l i with | some b => some (V.c (.j .u8 (.ofNat b))) | none => none) = _
    rw [lget_eq, hb]
  exact w_fin he hs hw h
theorem fLns_ok (x : O) (dst : Option Nat) : OpOk ⟨fLns (gt x).f (pt dst).f⟩ dst (.w (.lns x)) := by
  intro ck call hc e s k t u he hs h
  obtain ⟨l, ha, h⟩ := unS_some (show unS ((gt x).f e) _ = true from h)
  rw [he.gt] at ha
  have hw : wv t (.lns x) = some (.c (.i (.ofNat (llen l)))) := by
    show (match os t x with | .s l => some (V.c (.i (.ofNat (llen l)))) | _ => none) = _
    rw [os_of ha]
  exact w_fin he hs hw h
theorem fSls_ok (x : O) (lo hi : Option O) (dst : Option Nat) : OpOk ⟨fSls (gt x).f lo hi (pt dst).f⟩ dst (.w (.sls x lo hi)) := by
  intro ck call hc e s k t u he hs h
  obtain ⟨l, ha, h⟩ := unS_some (show unS ((gt x).f e) _ = true from h)
  rw [he.gt] at ha
  rw [he, onDR_eq, onDR_eq] at h
  split at h
  · rename_i a b h1 h2
    have h' : Bool.rec (motive := fun _ => Bool) false ((pt dst).f (.c (.s (ltake (dropN l a) (Nat.sub b a)))) e fun e => k e s) (Nat.ble a b && Nat.ble b (llen l)) = true := h
    cases hb : (Nat.ble a b && Nat.ble b (llen l)) with
    | false => rw [hb] at h'; cases h'
    | true =>
      rw [hb] at h'
      have hw : wv t (.sls x lo hi) = some (.c (.s (ltake (dropN l a) (Nat.sub b a)))) := by
        show (match os t x with
          | .s l => (match onD t 0 lo, onD t (llen l) hi with
            | some a, some b => bif Nat.ble a b && Nat.ble b (llen l) then some (V.c (.s (ltake (ldrop l a) (Nat.sub b a)))) else none
            | _, _ => none)
          | _ => none) = _
        rw [os_of ha]
        show (match onD t 0 lo, onD t (llen l) hi with
            | some a, some b => bif Nat.ble a b && Nat.ble b (llen l) then some (V.c (.s (ltake (ldrop l a) (Nat.sub b a)))) else none
            | _, _ => none) = _
        rw [h1, h2]
        show (bif Nat.ble a b && Nat.ble b (llen l) then some (V.c (.s (ltake (ldrop l a) (Nat.sub b a)))) else none) = _
        rw [hb, dropN_eq, ldrop_eq]; rfl
      exact w_fin he hs hw h'
  · cases h
theorem wv_lnl0 {t : E} {x : O} (h : os t x = .l0) : wv t (.lnl x) = some (.c (.i 0)) := by
  show (match os t x with | .l0 => some (V.c (.i 0)) | .l _ _ n _ _ => some (V.c (.i (.ofNat n))) | _ => none) = _
  rw [h]
theorem wv_lnl {t : E} {x : O} {a b n d : Nat} {f : Bool} (h : os t x = .l a b n d f) : wv t (.lnl x) = some (.c (.i (.ofNat n))) := by
  show (match os t x with | .l0 => some (V.c (.i 0)) | .l _ _ n _ _ => some (V.c (.i (.ofNat n))) | _ => none) = _
  rw [h]
theorem fLnl_ok (x : O) (dst : Option Nat) : OpOk ⟨fLnl (.lnl x) (gt x).f (pt dst).f⟩ dst (.w (.lnl x)) := by
  intro ck call hc e s k t u he hs h
  obtain ⟨a, ha, h⟩ := unC_some (show unC ((gt x).f e) _ = true from h)
  rw [he.gt] at ha
  have ho := os_of ha
  clear ha
  cases a with
  | l0 => exact w_fin he hs (wv_lnl0 ho) h
  | l a b c d f => exact w_fin he hs (wv_lnl ho) h
  | _ => cases h
theorem fPick_ok (c x y : O) (dst : Option Nat) : OpOk ⟨fPick (gt c).f (gt x).f (gt y).f (pt dst).f⟩ dst (.w (.pick c x y)) := by
  intro ck call hc e s k t u he hs h
  obtain ⟨b, hb, h⟩ := unB_some (show unB ((gt c).f e) _ = true from h)
  rw [he.gt] at hb
  have hw : wv t (.pick c x y) = some (bif b then ov t x else ov t y) := by
    show (match os t c with | .b q => some (bif q then ov t x else ov t y) | _ => none) = _
    rw [os_of hb]
  cases b with
  | false =>
    have h' : (pt dst).f ((gt y).f e) e (fun e => k e s) = true := h
    rw [he.gt] at h'
    exact w_fin he hs hw h'
  | true =>
    have h' : (pt dst).f ((gt x).f e) e (fun e => k e s) = true := h
    rw [he.gt] at h'
    exact w_fin he hs hw h'
theorem opW_ok (w : W) (dst : Option Nat) : OpOk (opW w (pt dst)) dst (.w w) := by
  cases w with
  | mv x => show OpOk (with1 _ _ _) _ _; rw [with1_f]; exact fMv_ok x dst
  | bin op x y =>
    have e : opW (.bin op x y) (pt dst) = ⟨fBin op (bf op).f (gt x).f (gt y).f (pt dst).f⟩ := by
      show BF.rec (motive := fun _ => OpB) (fun f => with2 (gt x) (gt y) (pt dst) (fBin op f)) (bf op) = _
      cases bf op; rw [← with2_f]
    rw [e]; exact fBin_ok op x y dst
  | fad off x => show OpOk (with1 _ _ _) _ _; rw [with1_f]; exact fFad_ok off x dst
  | fld off n x =>
    cases n with
    | none => show OpOk (with1 _ _ _) _ _; rw [with1_f]; exact fFld_ok off x dst
    | some n => show OpOk (with0 _ _) _ _; rw [with0_f]; exact fW_ok _ dst
  | iad sz x y => show OpOk (with2 _ _ _ _) _ _; rw [with2_f]; exact fIad_ok sz x y dst
  | lnl x => show OpOk (with1 _ _ _) _ _; rw [with1_f]; exact fLnl_ok x dst
  | pick c x y => show OpOk (with3 _ _ _ _ _) _ _; rw [with3_f]; exact fPick_ok c x y dst
  | ixs x y => show OpOk (with2 _ _ _ _) _ _; rw [with2_f]; exact fIxs_ok x y dst
  | lns x => show OpOk (with1 _ _ _) _ _; rw [with1_f]; exact fLns_ok x dst
  | sls x lo hi =>
    have e : opW (.sls x lo hi) (pt dst) = ⟨fSls (gt x).f lo hi (pt dst).f⟩ := by
      show with1 (gt x) (pt dst) (fun x d => fSls x lo hi d) = _
      rw [with1_f]
    rw [e]; exact fSls_ok x lo hi dst
  | _ => show OpOk (with0 _ _) _ _; rw [with0_f]; exact fW_ok _ dst
theorem r_fin {dst : Option Nat} {r : R} {call : Nat → List V → St → Option (V × St)} {e : EK} {s : KS} {k : EK → KS → Bool} {t : E} {u : St} (he : RE e t) (hs : RS s u) {v : V} (hv : rv t u r = some v)
    (hk : (pt dst).f v e (fun e => k e s) = true) : ∃ v u' e' s', mo call t u (.r r) = some (v, u') ∧ RE e' (put t dst v) ∧ RS s' u' ∧ k e' s' = true := by
  obtain ⟨e', h1, h2⟩ := he.put hk
  refine ⟨v, u, e', s, ?_, h1, hs, h2⟩
  show (match rv t u r with | some v => some (v, u) | none => none) = _
  rw [hv]
theorem fR_ok (r : R) (dst : Option Nat) : OpOk ⟨fR r (pt dst).f⟩ dst (.r r) := by
  intro ck call hc e s k t u he hs h
  have h' : vk (rvK (look e) s r) (fun v => (pt dst).f v e fun e => k e s) = true := h
  rw [he] at h'
  obtain ⟨v, h1, h2⟩ := vk_some h'
  exact r_fin he hs (hs.rv h1) h2
theorem fLd1_ok (x : O) (dst : Option Nat) : OpOk ⟨fLd1 (gt x).f (pt dst).f⟩ dst (.r (.ld none x)) := by
  intro ck call hc e s k t u he hs h
  obtain ⟨a, o, ha, h⟩ := unP_some (show unP ((gt x).f e) _ = true from h)
  rw [he.gt] at ha
  have h' : Option.rec (motive := fun _ => Bool) false (fun b => KB.rec (motive := fun _ => Bool) (fun r n _ _ =>
    Bool.rec (motive := fun _ => Bool) false (force (Nat.sub n (Nat.succ o)) fun m => atK r m fun v => (pt dst).f (.c v) e fun e => k e s) (Nat.ble (Nat.succ o) n)) b) (getK s a) = true := h
  cases hb : getK s a with
  | none => rw [hb] at h'; cases h'
  | some b =>
    rw [hb] at h'
    have hn := hs.n a b hb
    have hh := hs.h a
    rw [hb] at hh
    cases b with
    | mk br bn bf bd =>
      have h2 : Bool.rec (motive := fun _ => Bool) false (force (Nat.sub bn (Nat.succ o)) fun m => atK br m fun v => (pt dst).f (.c v) e fun e => k e s) (Nat.ble (Nat.succ o) bn) = true := h'
      cases hle : Nat.ble (Nat.succ o) bn with
      | false => rw [hle] at h2; cases h2
      | true =>
        rw [hle] at h2
        obtain ⟨c, h3, h4⟩ := atK_some (show atK br (Nat.sub bn (Nat.succ o)) _ = true from h2)
        have h3' : br[bn - (o + 1)]? = some c := h3
        rw [lget_rev hn (Nat.le_of_ble_eq_true hle)] at h3'
        refine r_fin he hs (v := .c c) ?_ h4
        show ldv u none (os t x) = _
        rw [os_of ha]
        show (match u.h.get a with | some b => (match lget b.c o with | some v => some (V.c v) | none => none) | none => none) = _
        rw [hh]
        show (match lget br.reverse o with | some v => some (V.c v) | none => none) = _
        rw [h3']
theorem opR_ok (r : R) (dst : Option Nat) : OpOk (opR r (pt dst)) dst (.r r) := by
  cases r with
  | ld n x =>
    cases n with
    | none => show OpOk (with1 _ _ _) _ _; rw [with1_f]; exact fLd1_ok x dst
    | some n => show OpOk (with0 _ _) _ _; rw [with0_f]; exact fR_ok _ dst
  | bts x => show OpOk (with0 _ _) _ _; rw [with0_f]; exact fR_ok _ dst
theorem a_fin {dst : Option Nat} {a : A} {call : Nat → List V → St → Option (V × St)} {k : EK → KS → Bool} {t : E} {u : St} {l : List S} {f : Nat → V} (hv : av t a = some (l, f)) {e' : EK} {s' : KS} (h1 : RE e' (put t dst (f u.nb))) (h2 : RS s' (Ev.alloc u l))
    (hk : k e' s' = true) : ∃ v u' e' s', mo call t u (.a a) = some (v, u') ∧ RE e' (put t dst v) ∧ RS s' u' ∧ k e' s' = true := by
  refine ⟨f u.nb, Ev.alloc u l, e', s', ?_, h1, h2, hk⟩
  show (match av t a with | some (l, f) => some (f u.nb, Ev.alloc u l) | none => none) = _
  rw [hv]
theorem fA_ok (a : A) (dst : Option Nat) : OpOk ⟨fA a (pt dst).f⟩ dst (.a a) := by
  intro ck call hc e s k t u he hs h
  have h' : (match avR (look e) a with
    | none => false
    | some (l, f) => (pt dst).f (f s.nb) e fun e => allocK s (mkB l 0 0) (k e)) = true := h
  rw [he, avR_eq] at h'
  split at h'
  · cases h'
  · rename_i l f hv
    obtain ⟨e', h1, h2⟩ := he.put h'
    obtain ⟨s', h3, h4⟩ := hs.alloc h2
    rw [← hs.nb] at h1
    exact a_fin hv h1 h4 h3
theorem al_some {l r : List S} {n : Nat} (hr : r = l.reverse) (hn : n = l.length) {dst : Option Nat} {a : A} (ha : ∀ t, av t a = some (l, fun x => .c (.p x 0)) → True) {ck : CallK} {call : Nat → List V → St → Option (V × St)} {e : EK} {s : KS} {k : EK → KS → Bool} {t : E} {u : St}
    (he : RE e t) (hs : RS s u) (hv : av t a = some (l, fun x => .c (.p x 0))) (h : fAl r n (pt dst).f ck e s k = true) : ∃ v u' e' s', mo call t u (.a a) = some (v, u') ∧ RE e' (put t dst v) ∧ RS s' u' ∧ k e' s' = true := by
  cases s with
  | mk hh nb fm nf =>
    have h' : (blkL nb).m (some ⟨r, n, 0, 0⟩) hh (fun h => (pt dst).f (.c (.p nb 0)) e fun e => k e ⟨h, Nat.succ nb, fm, nf⟩) = true := h
    obtain ⟨h2, h3, h4⟩ := blk_put h'
    obtain ⟨e', h5, h6⟩ := he.put h3
    have e1 : u.nb = nb := hs.nb
    refine a_fin (l := l) (f := fun x => .c (.p x 0)) hv (e' := e') (s' := ⟨h2, Nat.succ nb, fm, nf⟩) (by rw [e1]; exact h5) ?_ h6
    refine ⟨by show Nat.succ u.nb = _; rw [e1], hs.nf, hs.fm, fun y => ?_, fun y c hy => ?_⟩
    · show (T.upd (some ⟨l, 0, 0⟩) u.h u.nb).get y = ((blkL y).g h2).map KB.bk
      rw [T.get_upd, h4, e1]
      by_cases hy : y = nb
      · rw [if_pos hy, if_pos hy]
        show _ = some (⟨r.reverse, 0, 0⟩ : Bk)
        rw [hr, List.reverse_reverse]
      · rw [if_neg hy, if_neg hy]; exact hs.h y
    · have hy' : (blkL y).g h2 = some c := hy
      rw [h4] at hy'
      by_cases hyn : y = nb
      · rw [if_pos hyn] at hy'
        simp only [Option.some.injEq] at hy'
        rw [← hy']
        show n = r.length
        rw [hr, hn, List.length_reverse]
      · rw [if_neg hyn] at hy'; exact hs.n y c hy'
theorem fAl_ok (z : List S) (dst : Option Nat) : OpOk ⟨fAl (revA z []) (llen z) (pt dst).f⟩ dst (.a (.al z)) := by
  intro ck call hc e s k t u he hs h
  exact al_some (ck := ck) (l := z) (by rw [revA_eq, List.append_nil]) (llen_eq z) (fun _ _ => trivial) he hs rfl h
theorem fBox_ok (x : O) (dst : Option Nat) : OpOk ⟨fBox (.box x) (gt x).f (pt dst).f⟩ dst (.a (.box x)) := by
  intro ck call hc e s k t u he hs h
  have h' : @V.rec (fun _ => Bool) (fun _ => Bool) false (fun c => fAl [c] 1 (pt dst).f ck e s k) (fun l => force (llen l) fun n => fAl (revA l []) n (pt dst).f ck e s k) (fun _ _ => false) false (fun _ _ _ _ => false) ((gt x).f e) = true := h
  have hv : av t (.box x) = (match cellsOf (ov t x) with | some l => some (l, fun x => .c (.p x 0)) | none => none) := rfl
  have hx := he.gt x
  cases hq : (gt x).f e with
  | o => rw [hq] at h'; cases h'
  | t l => rw [hq] at h'; cases h'
  | c c =>
    rw [hq] at h' hx
    exact al_some (ck := ck) (l := [c]) rfl rfl (fun _ _ => trivial) he hs (by rw [hv, ← hx]; rfl) h'
  | a l =>
    rw [hq] at h' hx
    exact al_some (ck := ck) (l := l) (by rw [revA_eq, List.append_nil]) (llen_eq l) (fun _ _ => trivial) he hs (by rw [hv, ← hx]; rfl) (show fAl (revA l []) (llen l) (pt dst).f ck e s k = true from h')
theorem opA_ok (a : A) (dst : Option Nat) : OpOk (opA a (pt dst)) dst (.a a) := by
  cases a with
  | al z => show OpOk (with0 _ _) _ _; rw [with0_f]; exact fAl_ok z dst
  | box x => show OpOk (with1 _ _ _) _ _; rw [with1_f]; exact fBox_ok x dst
  | _ => show OpOk (with0 _ _) _ _; rw [with0_f]; exact fA_ok _ dst
theorem m_fin {dst : Option Nat} {m : M} {call : Nat → List V → St → Option (V × St)} {e : EK} {k : EK → KS → Bool} {t : E} {u u' : St} {v : V} {s' : KS} (he : RE e t) (hv : mv call t u m = some (v, u')) (hs : RS s' u')
    (hk : (pt dst).f v e (fun e => k e s') = true) : ∃ v u' e' s', mo call t u (.m m) = some (v, u') ∧ RE e' (put t dst v) ∧ RS s' u' ∧ k e' s' = true := by
  obtain ⟨e', h1, h2⟩ := he.put hk
  exact ⟨v, u', e', s', hv, h1, hs, h2⟩
theorem mv_st {call : Nat → List V → St → Option (V × St)} {t : E} {u u' : St} {n : Nat} {a v : O} {x o : Nat} {l : List S} (ha : os t a = .p x o) (hv : cellsOf (ov t v) = some l) (h : Ev.store u x o n l = some u') : mv call t u (.st n a v) = some (.o, u') := by
  show (match os t a, cellsOf (ov t v) with
    | .p x o, some l => (match Ev.store u x o n l with | some s => some (V.o, s) | none => none)
    | _, _ => none) = _
  rw [ha, hv]
  show (match Ev.store u x o n l with | some s => some (V.o, s) | none => none) = _
  rw [h]
theorem fSt_ok (n : Nat) (a v : O) (dst : Option Nat) : OpOk ⟨fSt n a v (pt dst).f⟩ dst (.m (.st n a v)) := by
  intro ck call hc e s k t u he hs h
  have h' : (match osR (look e) a, cellsOf (look e v) with
    | .p x o, some l => storeK s x o n l fun s => (pt dst).f .o e fun e => k e s
    | _, _ => false) = true := h
  rw [he] at h'
  split at h'
  · rename_i x o l ha hv
    obtain ⟨s', u', h1, h2, h3⟩ := hs.store h'
    exact m_fin he (mv_st ha hv h1) h2 h3
  · cases h'
theorem fStV_ok (a v : O) (dst : Option Nat) : OpOk ⟨fStV 1 a v (gt a).f (gt v).f (pt dst).f⟩ dst (.m (.st 1 a v)) := by
  intro ck call hc e s k t u he hs h
  have h' : @V.rec (fun _ => Bool) (fun _ => Bool) false (fun _ => fSt1 (gt a).f (gt v).f (pt dst).f ck e s k) (fun _ => fSt 1 a v (pt dst).f ck e s k) (fun _ _ => false) false (fun _ _ _ _ => false) ((gt v).f e) = true := h
  cases hv : (gt v).f e with
  | o => rw [hv] at h'; cases h'
  | t l => rw [hv] at h'; cases h'
  | a l => rw [hv] at h'; exact fSt_ok 1 a v dst ck call hc e s k t u he hs h'
  | c q =>
    rw [hv] at h'
    obtain ⟨x, o, ha, h2⟩ := unP_some (show unP ((gt a).f e) _ = true from h')
    obtain ⟨c, hc', h2⟩ := unC_some h2
    rw [he.gt] at ha hc'
    have h3 : Option.rec (motive := fun _ => Bool) false (fun b => bif Nat.ble (Nat.succ o) b.n then prepK s b x o 1 fun s =>
      KB.rec (motive := fun _ => Bool) (fun r m fam d' => setK s x (some ⟨lset r c (Nat.sub m (Nat.succ o)), m, fam, d'⟩) fun s => (pt dst).f .o e fun e => k e s) b else false) (getK s x) = true := h2
    cases hb : getK s x with
    | none => rw [hb] at h3; cases h3
    | some b =>
      rw [hb] at h3
      have h4 : (bif Nat.ble (Nat.succ o) b.n then prepK s b x o 1 fun s =>
        KB.rec (motive := fun _ => Bool) (fun r m fam d' => setK s x (some ⟨lset r c (Nat.sub m (Nat.succ o)), m, fam, d'⟩) fun s => (pt dst).f .o e fun e => k e s) b else false) = true := h3
      cases hle : Nat.ble (Nat.succ o) b.n with
      | false => rw [hle] at h4; cases h4
      | true =>
        rw [hle] at h4
        obtain ⟨s', u', h5, h6, h7⟩ := hs.store1 hb hle h4
        exact m_fin he (mv_st (os_of ha) (by rw [hc']; rfl) h5) h6 h7
theorem joinB_some {b nw : KB} (hn : b.n = b.r.length) {o n : Nat} {ns : List S} (h : joinB b o n ns = some nw) : nw.n = nw.r.length ∧ nw.r.length = n + ns.length ∧ ∃ l, Nat.ble (Nat.add o n) (llen b.bk.c) = true ∧ l = ltake (ldrop b.bk.c o) n ∧ nw.r.reverse = lapp l ns := by
  unfold joinB at h
  cases hc : (Nat.beq o 0 && Nat.beq n b.n) with
  | true =>
    rw [hc] at h
    have h' : some (⟨revA ns b.r, Nat.add n (llen ns), 0, 0⟩ : KB) = some nw := h
    simp only [Option.some.injEq] at h'
    obtain ⟨c1, c2⟩ := (Bool.and_eq_true _ _).mp hc
    have c1 : o = 0 := Nat.eq_of_beq_eq_true c1
    have c2 : n = b.n := Nat.eq_of_beq_eq_true c2
    subst h'
    subst c1
    have hlen : n = b.r.length := c2.trans hn
    have e1 : (revA ns b.r).length = n + ns.length := by rw [revA_eq]; simp; omega
    refine ⟨?_, e1, b.r.reverse, ?_, ?_, ?_⟩
    · show n + llen ns = (revA ns b.r).length
      rw [llen_eq, e1]
    · rw [llen_eq]
      show Nat.ble (0 + n) (b.r.reverse.length) = true
      exact Nat.ble_eq_true_of_le (by simp; omega)
    · rw [ltake_eq, ldrop_eq]
      show b.r.reverse = List.take n (List.drop 0 b.r.reverse)
      rw [List.drop_zero, List.take_of_length_le (by simp; omega)]
    · show (revA ns b.r).reverse = _
      rw [revA_eq, lapp_eq]; simp
  | false =>
    rw [hc] at h
    have h' : (match cellsB b o n with | some l => some (⟨revA ns (revA l []), Nat.add n (llen ns), 0, 0⟩ : KB) | none => none) = some nw := h
    split at h'
    · rename_i l hl
      simp only [Option.some.injEq] at h'
      obtain ⟨h1, h2⟩ := cellsB_some hn hl
      subst h'
      have hl' : l.length = n := by
        rw [h2, ltake_eq, ldrop_eq]
        have := Nat.le_of_ble_eq_true h1
        rw [llen_eq] at this
        have this : o + n ≤ b.bk.c.length := this
        simp; omega
      have e1 : (revA ns (revA l [])).length = n + ns.length := by rw [revA_eq, revA_eq]; simp; omega
      refine ⟨?_, e1, l, h1, h2, ?_⟩
      · show n + llen ns = (revA ns (revA l [])).length
        rw [llen_eq, e1]
      · show (revA ns (revA l [])).reverse = _
        rw [revA_eq, revA_eq, lapp_eq]; simp
    · cases h'
theorem RS.news {s : KS} {u : St} (r : RS s u) {sz : Nat} {y : S} {q : Nat × List S} (h : newsK s sz y = some q) : newsOf u sz y = some q := by
  cases y with
  | l0 => exact h
  | l x o n sz' fl =>
    have h' : (bif Nat.beq sz sz' then (match n with
      | 0 => some (0, [])
      | .succ n => match cellsK s x o (Nat.mul (Nat.succ n) sz) with | some l => some (Nat.succ n, l) | none => none) else none) = some q := h
    obtain ⟨h1, h2⟩ := cond_some h'
    show (bif Nat.beq sz sz' then (match n with
      | 0 => some (0, [])
      | .succ n => match cellsAt u x o (Nat.mul (Nat.succ n) sz) with | some l => some (Nat.succ n, l) | none => none) else none) = some q
    rw [h1]
    cases n with
    | zero => exact h2
    | succ n =>
      have h2' : (match cellsK s x o (Nat.mul (Nat.succ n) sz) with | some l => some (Nat.succ n, l) | none => none) = some q := h2
      split at h2'
      · rename_i l hl
        show (match cellsAt u x o (Nat.mul (Nat.succ n) sz) with | some l => some (Nat.succ n, l) | none => none) = some q
        rw [r.cells hl]; exact h2'
      · cases h2'
  | _ => cases h
theorem RS.famOf {s : KS} {u : St} (r : RS s u) {bl : Nat} {b : KB} (hb : getK s bl = some b) {k : KS → Nat → Nat → List (Nat × Nat × Nat) → Bool} (h : famK s bl b k = true) :
    ∃ s' u' d f ms, Ev.famOf u bl = some (u', d, f, ms) ∧ RS s' u' ∧ s'.nb = s.nb ∧ k s' d f ms = true := by
  have e1 := r.h bl
  rw [hb] at e1
  have hn := r.n bl b hb
  cases b with
  | mk br bn bf bd =>
    have e1' : u.h.get bl = some ⟨br.reverse, bf, bd⟩ := e1
    cases bf with
    | zero =>
      cases s with
      | mk hh nb fm nf =>
        have h' : (blkL bl).m (some ⟨br, bn, Nat.succ nf, 0⟩) hh (fun h => k ⟨h, nb, T.upd (some [(bl, 0, bn)]) fm nf, Nat.succ nf⟩ 0 nf [(bl, 0, bn)]) = true := h
        obtain ⟨h2, h3, h4⟩ := blk_put h'
        have q1 : u.nf = nf := r.nf
        have q2 : u.fm = fm := r.fm
        have q3 : llen br.reverse = bn := by rw [llen_eq, List.length_reverse]; exact hn.symm
        refine ⟨⟨h2, nb, T.upd (some [(bl, 0, bn)]) fm nf, Nat.succ nf⟩, { u with h := T.upd (some ⟨br.reverse, Nat.succ u.nf, 0⟩) u.h bl, fm := T.upd (some [(bl, 0, llen br.reverse)]) u.fm u.nf, nf := Nat.succ u.nf }, 0, u.nf, [(bl, 0, llen br.reverse)], ?_, ?_, ?_, ?_⟩
        rotate_left 3
        · rw [q1, q3]; exact h3
        · unfold Ev.famOf
          simp only [e1']
        · refine ⟨r.nb, by show Nat.succ u.nf = Nat.succ nf; rw [q1], by dsimp only; rw [q1, q2, q3], fun y => ?_, fun y c hy => ?_⟩
          · show (T.upd (some ⟨br.reverse, Nat.succ u.nf, 0⟩) u.h bl).get y = ((blkL y).g h2).map KB.bk
            rw [T.get_upd, h4]
            by_cases hy : y = bl
            · rw [if_pos hy, if_pos hy, q1]; rfl
            · rw [if_neg hy, if_neg hy]; exact r.h y
          · have hy' : (blkL y).g h2 = some c := hy
            rw [h4] at hy'
            by_cases hyb : y = bl
            · rw [if_pos hyb] at hy'; simp only [Option.some.injEq] at hy'; rw [← hy']; exact hn
            · rw [if_neg hyb] at hy'; exact r.n y c hy'
        · rfl
    | succ f =>
      have h' : (match s.fm.get f with
        | none => false
        | some ms => k s bd f ms) = true := h
      split at h'
      · cases h'
      · rename_i ms hms
        have hms' : u.fm.get f = some ms := by rw [r.fm]; exact hms
        refine ⟨s, u, bd, f, ms, ?_, r, rfl, h'⟩
        unfold Ev.famOf
        simp only [e1', hms']
theorem RS.grow {s : KS} {u : St} (r : RS s u) {f d lo hi : Nat} {ms : List (Nat × Nat × Nat)} {b : KB} (hn : b.n = b.r.length) {k : KS → Bool} (h : growK s f d lo hi ms b k = true) :
    ∃ s', RS s' (Ev.grow u f d lo hi ms b.r.reverse) ∧ k s' = true := by
  unfold growK at h
  obtain ⟨s1, h1, h2, h3⟩ := r.kill h
  have h2' : RS (fmK s1 f (some ((s.nb, d, b.n) :: (Ev.kill s.nb lo hi u.h ms).2))) { u with h := (Ev.kill s.nb lo hi u.h ms).1, fm := T.upd (some ((s.nb, d, b.n) :: (Ev.kill s.nb lo hi u.h ms).2)) u.fm f } := by
    have hf : u.fm = s1.fm := h2.fm
    exact ⟨h2.nb, h2.nf, by unfold fmK; simp only [hf], h2.h, h2.n⟩
  obtain ⟨s2, h4, h5⟩ := h2'.allocB (b := ⟨b.r, b.n, Nat.succ f, d⟩) hn h1
  refine ⟨s2, ?_, h4⟩
  have e : llen b.r.reverse = b.n := by rw [llen_eq, List.length_reverse]; exact hn.symm
  unfold Ev.grow
  rw [e, r.nb]
  have hnb : u.nb = s.nb := r.nb
  rw [hnb] at h5
  exact h5
noncomputable def oldOf (u : St) (bl o n sz : Nat) : Option (List S) := match n with | 0 => some [] | .succ _ => cellsAt u bl o (Nat.mul n sz)
noncomputable def appL (u : St) (sz bytes m : Nat) (ns : List S) (bl o n sz' : Nat) (full : Bool) : Option (V × St) :=
  bif Nat.beq sz sz' && (Nat.ble (Nat.mul (Nat.add n m) bytes) m47 && Nat.ble (Nat.add n m) m63) then
    match oldOf u bl o n sz with
    | none => none
    | some old =>
      bif full then some (.c (.l u.nb 0 (Nat.add n m) sz false), Ev.alloc u (lapp old ns))
      else match Ev.famOf u bl with
        | none => none
        | some (s', d, f, ms) =>
          let lo := Nat.add (Nat.add d o) (Nat.mul n sz)
          some (.c (.l u.nb 0 (Nat.add n m) sz false), Ev.grow s' f (Nat.add d o) lo (Nat.add lo (llen ns)) ms (lapp old ns))
  else none
theorem app_l {u : St} {sz bytes m : Nat} {ns : List S} {y : S} (h : newsOf u sz y = some (m + 1, ns)) (bl o n sz' : Nat) (full : Bool) : Ev.app u sz bytes (.l bl o n sz' full) y = appL u sz bytes (m + 1) ns bl o n sz' full := by
  unfold Ev.app
  rw [h]
  rfl
theorem app_old {u : St} {bl o n sz : Nat} {b : KB} {l : List S} (hh : u.h.get bl = (some b).map KB.bk) (j3 : Nat.ble (Nat.add o (Nat.mul n sz)) (llen b.bk.c) = true) (j4 : l = ltake (ldrop b.bk.c o) (Nat.mul n sz)) :
    oldOf u bl o n sz = some l := by
  cases n with
  | zero =>
    have : l = [] := by
      rw [j4, ltake_eq, show Nat.mul 0 sz = 0 from Nat.zero_mul sz]; simp
    rw [this]; rfl
  | succ n =>
    show cellsAt u bl o (Nat.mul (n + 1) sz) = some l
    unfold cellsAt
    rw [hh]
    show (bif Nat.ble (Nat.add o (Nat.mul (n + 1) sz)) (llen b.bk.c) then some (ltake (ldrop b.bk.c o) (Nat.mul (n + 1) sz)) else none) = _
    rw [j3, j4]; rfl
theorem RS.app {s : KS} {u : St} (r : RS s u) {sz bytes : Nat} {x y : S} {k : V → KS → Bool} (h : appK s sz bytes x y k = true) : ∃ v s' u', Ev.app u sz bytes x y = some (v, u') ∧ RS s' u' ∧ k v s' = true := by
  unfold appK at h
  split at h
  · cases h
  · rename_i m ns hnews
    have hnews := r.news hnews
    cases m with
    | zero =>
      cases x with
      | l0 => exact ⟨_, s, u, by unfold Ev.app; rw [hnews], r, h⟩
      | l a b c d e => exact ⟨_, s, u, by unfold Ev.app; rw [hnews], r, h⟩
      | _ => cases h
    | succ m =>
      cases x with
      | l0 =>
        have h' : (bif Nat.ble (Nat.mul (m + 1) bytes) m47 && Nat.ble (m + 1) m63 then allocK s (mkB ns 0 0) (k (.c (.l s.nb 0 (m + 1) sz false))) else false) = true := h
        cases hc : (Nat.ble (Nat.mul (m + 1) bytes) m47 && Nat.ble (m + 1) m63) with
        | false => rw [hc] at h'; cases h'
        | true =>
          rw [hc] at h'
          obtain ⟨s', h1, h2⟩ := r.alloc h'
          rw [← r.nb] at h1
          refine ⟨_, s', _, ?_, h2, h1⟩
          unfold Ev.app
          rw [hnews]
          show (bif Nat.ble (Nat.mul (m + 1) bytes) m47 && Nat.ble (m + 1) m63 then some (V.c (.l u.nb 0 (m + 1) sz false), Ev.alloc u ns) else none) = _
          rw [hc]; rfl
      | l bl o n sz' full =>
        rw [app_l hnews]
        unfold appL
        cases hc : (Nat.beq sz sz' && (Nat.ble (Nat.mul (Nat.add n (m + 1)) bytes) m47 && Nat.ble (Nat.add n (m + 1)) m63)) with
        | false => simp only [hc, cond_false] at h; cases h
        | true =>
          simp only [hc, cond_true] at h ⊢
          cases hf : (full && Nat.beq n 0) with
          | true =>
            rw [hf] at h
            obtain ⟨f1, f2⟩ := (Bool.and_eq_true _ _).mp hf
            have f2 : n = 0 := Nat.eq_of_beq_eq_true f2
            subst f1 f2
            obtain ⟨s', h1, h2⟩ := r.alloc (show allocK s (mkB ns 0 0) _ = true from h)
            rw [← r.nb] at h1
            refine ⟨_, s', _, rfl, ?_, h1⟩
            exact h2
          | false =>
            rw [hf] at h
            have h' : (match getK s bl with
              | none => false
              | some b => match joinB b o (Nat.mul n sz) ns with
                | none => false
                | some nw =>
                  bif full then allocK s nw (k (.c (.l s.nb 0 (Nat.add n (m + 1)) sz false)))
                  else famK s bl b fun s' d f ms =>
                    growK s' f (Nat.add d o) (Nat.add (Nat.add d o) (Nat.mul n sz)) (Nat.add (Nat.add (Nat.add d o) (Nat.mul n sz)) (llen ns)) ms nw (k (.c (.l s.nb 0 (Nat.add n (m + 1)) sz false)))) = true := h
            split at h'
            · cases h'
            · rename_i b hb
              have hn := r.n bl b hb
              have hh := r.h bl
              rw [hb] at hh
              split at h'
              · cases h'
              · rename_i nw hnw
                obtain ⟨j1, j2, l, j3, j4, j5⟩ := joinB_some hn hnw
                have old := app_old (n := n) (sz := sz) hh j3 j4
                rw [old]
                cases full with
                | true =>
                  obtain ⟨s', h1, h2⟩ := r.allocB (b := nw) j1 (show allocK s nw _ = true from h')
                  have hz : nw.fam = 0 ∧ nw.d = 0 := by
                    unfold joinB at hnw
                    cases hq : (Nat.beq o 0 && Nat.beq (Nat.mul n sz) b.n) with
                    | true => rw [hq] at hnw; have hnw' : some (⟨revA ns b.r, _, 0, 0⟩ : KB) = some nw := hnw; simp only [Option.some.injEq] at hnw'; rw [← hnw']; exact ⟨rfl, rfl⟩
                    | false =>
                      rw [hq] at hnw
                      have hnw' : (match cellsB b o (Nat.mul n sz) with | some l => some (⟨revA ns (revA l []), Nat.add (Nat.mul n sz) (llen ns), 0, 0⟩ : KB) | none => none) = some nw := hnw
                      split at hnw'
                      · simp only [Option.some.injEq] at hnw'; rw [← hnw']; exact ⟨rfl, rfl⟩
                      · cases hnw'
                  rw [← r.nb] at h1
                  refine ⟨_, s', _, rfl, ?_, h1⟩
                  have e2 : nw.bk = ⟨lapp l ns, 0, 0⟩ := by
                    show (⟨nw.r.reverse, nw.fam, nw.d⟩ : Bk) = _
                    rw [j5, hz.1, hz.2]
                  rw [e2] at h2
                  exact h2
                | false =>
                  have h'' : famK s bl b (fun s' d f ms =>
                    growK s' f (Nat.add d o) (Nat.add (Nat.add d o) (Nat.mul n sz)) (Nat.add (Nat.add (Nat.add d o) (Nat.mul n sz)) (llen ns)) ms nw (k (.c (.l s.nb 0 (Nat.add n (m + 1)) sz false)))) = true := h'
                  obtain ⟨s1, u1, d, f, ms, h1, h2, h3, h4⟩ := r.famOf hb h''
                  obtain ⟨s2, h5, h6⟩ := h2.grow j1 h4
                  rw [← r.nb] at h6
                  refine ⟨_, s2, _, ?_, h5, h6⟩
                  show (match Ev.famOf u bl with
                    | none => none
                    | some (s', d, f, ms) =>
                      some (V.c (.l u.nb 0 (Nat.add n (m + 1)) sz false), Ev.grow s' f (Nat.add d o) (Nat.add (Nat.add d o) (Nat.mul n sz)) (Nat.add (Nat.add (Nat.add d o) (Nat.mul n sz)) (llen ns)) ms (lapp l ns))) = _
                  rw [h1, j5]
      | _ => cases h
theorem fApp_ok (sz bytes : Nat) (x y : O) (dst : Option Nat) : OpOk ⟨fApp sz bytes (gt x).f (gt y).f (pt dst).f⟩ dst (.m (.app sz bytes x y)) := by
  intro ck call hc e s k t u he hs h
  obtain ⟨a, ha, h⟩ := unC_some (show unC ((gt x).f e) _ = true from h)
  obtain ⟨b, hb, h⟩ := unC_some h
  rw [he.gt] at ha hb
  obtain ⟨v, s', u', h1, h2, h3⟩ := hs.app h
  refine m_fin he ?_ h2 h3
  show Ev.app u sz bytes (os t x) (os t y) = _
  rw [os_of ha, os_of hb]; exact h1
theorem fCall_ok (g : Nat) (xs : List O) (dst : Option Nat) : OpOk ⟨fCall g (gts xs).l (pt dst).f⟩ dst (.m (.call g xs)) := by
  intro ck call hc e s k t u he hs h
  have h' : ck g (argsK e (gts xs).l) s (fun v s => (pt dst).f v e fun e => k e s) = true := h
  rw [args_eq he] at h'
  obtain ⟨v, s', u', h1, h2, h3⟩ := hc _ _ _ _ u hs h'
  exact m_fin he h1 h2 h3
theorem fCal_ok (x : O) (xs : List O) (dst : Option Nat) : OpOk ⟨fCal x (gts xs).l (pt dst).f⟩ dst (.m (.cal x xs)) := by
  intro ck call hc e s k t u he hs h
  have h' : (match osR (look e) x with
    | .f g cs => ck g (lapp (argsK e (gts xs).l) (cs.map fun c => V.c (.p c.1 c.2))) s fun v s => (pt dst).f v e fun e => k e s
    | _ => false) = true := h
  rw [args_eq he, he] at h'
  split at h'
  · rename_i g cs hx
    obtain ⟨v, s', u', h1, h2, h3⟩ := hc _ _ _ _ u hs h'
    refine m_fin he ?_ h2 h3
    have hx' : os t x = .f g cs := hx
    unfold mv
    simp only [hx']
    exact h1
  · cases h'
theorem RS.clr {s : KS} {u : St} (r : RS s u) {sz : Nat} {z : List S} {x : S} {k : KS → Bool} (h : clrK s sz z x k = true) : ∃ s' u', clrv u sz z x = some (.o, u') ∧ RS s' u' ∧ k s' = true := by
  cases x with
  | l0 => exact ⟨s, u, rfl, r, h⟩
  | l bl o n sz' fl =>
    have h' : (bif Nat.beq sz sz' then (bif Nat.beq n 0 then k s else storeK s bl o (Nat.mul n sz) (lrep z n) k) else false) = true := h
    have goal : ∀ {q}, (bif Nat.beq sz sz' then (bif Nat.beq n 0 then some (V.o, u) else match Ev.store u bl o (Nat.mul n sz) (lrep z n) with | some s => some (.o, s) | none => none) else none) = q → clrv u sz z (.l bl o n sz' fl) = q := fun h => h
    cases h1 : Nat.beq sz sz' with
    | false => rw [h1] at h'; cases h'
    | true =>
      rw [h1] at h' goal
      cases h2 : Nat.beq n 0 with
      | true => rw [h2] at h' goal; exact ⟨s, u, goal rfl, r, h'⟩
      | false =>
        rw [h2] at h' goal
        obtain ⟨s', u', h3, h4, h5⟩ := r.store (show storeK s bl o (Nat.mul n sz) (lrep z n) k = true from h')
        exact ⟨s', u', goal (by rw [h3]; rfl), h4, h5⟩
  | _ => cases h
theorem fClr_ok (sz : Nat) (z : List S) (x : O) (dst : Option Nat) : OpOk ⟨fClr sz z x (pt dst).f⟩ dst (.m (.clr sz z x)) := by
  intro ck call hc e s k t u he hs h
  have h' : clrK s sz z (osR (look e) x) (fun s => (pt dst).f .o e fun e => k e s) = true := h
  rw [he] at h'
  obtain ⟨s', u', h1, h2, h3⟩ := hs.clr h'
  exact m_fin he h1 h2 h3
theorem RS.apz {s : KS} {u : St} (r : RS s u) {sz bytes : Nat} {z : List S} {n : Option Nat} {x : S} {k : V → KS → Bool} (h : apzK s sz bytes z n x k = true) : ∃ v s' u', apzv u sz bytes z n x = some (v, u') ∧ RS s' u' ∧ k v s' = true := by
  unfold apzK at h
  unfold apzv
  split at h
  · split at h
    · exact ⟨_, s, u, rfl, r, h⟩
    · rename_i m
      cases hc : (Nat.ble (Nat.mul (m + 1) bytes) m47 && Nat.ble (m + 1) m63) with
      | false => rw [hc] at h; cases h
      | true =>
        rw [hc] at h
        obtain ⟨s', h1, h2⟩ := r.alloc (show allocK s (mkB (lrep z (m + 1)) 0 0) _ = true from h)
        rw [← r.nb] at h1
        refine ⟨_, s', _, ?_, h2, h1⟩
        simp only [Nat.succ_eq_add_one, hc, cond_true]
    · cases h
  · cases h
theorem fApz_ok (sz bytes : Nat) (z : List S) (x n : O) (dst : Option Nat) : OpOk ⟨fApz sz bytes z x n (pt dst).f⟩ dst (.m (.apz sz bytes z x n)) := by
  intro ck call hc e s k t u he hs h
  have h' : apzK s sz bytes z (onR (look e) n) (osR (look e) x) (fun v s => (pt dst).f v e fun e => k e s) = true := h
  rw [he] at h'
  obtain ⟨v, s', u', h1, h2, h3⟩ := hs.apz h'
  exact m_fin he h1 h2 h3
theorem opM_ok (m : M) (dst : Option Nat) : OpOk (opM m (pt dst)) dst (.m m) := by
  cases m with
  | st n a v =>
    show OpOk (bif Nat.beq n 1 then with2 (gt a) (gt v) (pt dst) (fStV n a v) else with0 (pt dst) (fSt n a v)) dst (.m (.st n a v))
    rw [with2_f, with0_f]
    cases h : Nat.beq n 1 with
    | true =>
      have : n = 1 := Nat.eq_of_beq_eq_true h
      subst this
      exact fStV_ok a v dst
    | false => exact fSt_ok n a v dst
  | app sz b x y => show OpOk (with2 _ _ _ _) _ _; rw [with2_f]; exact fApp_ok sz b x y dst
  | call g xs => show OpOk (withs _ _ _) _ _; rw [withs_f]; exact fCall_ok g xs dst
  | cal x xs => show OpOk (withs _ _ _) _ _; rw [withs_f]; exact fCal_ok x xs dst
  | clr sz z x => show OpOk (with0 _ _) _ _; rw [with0_f]; exact fClr_ok sz z x dst
  | apz sz b z x n => show OpOk (with0 _ _) _ _; rw [with0_f]; exact fApz_ok sz b z x n dst
theorem opMO_ok (o : MO) (dst : Option Nat) : OpOk (opMO o (pt dst)) dst o := by
  cases o with
  | w o => exact opW_ok o dst
  | r o => exact opR_ok o dst
  | a o => exact opA_ok o dst
  | m o => exact opM_ok o dst
end Go.Ev
