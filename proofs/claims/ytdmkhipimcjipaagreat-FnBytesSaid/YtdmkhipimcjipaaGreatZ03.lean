/- Parts of the proof of FnBytes. -/
import Derived.Test.YtdmkhipimcjipaaGreatZ02
set_option linter.unusedVariables false
set_option linter.unusedSimpArgs false
section
set_option linter.unusedVariables false
set_option linter.unusedSimpArgs false
set_option maxRecDepth 20000
namespace Go.Ev
open Go
theorem encode_small (n : Nat) (h : n ≤ 127) : (Utf8.encode (n : Int)).data.toList.map UInt8.toNat = [n] := by
  have : ∀ m : Fin 128, (Utf8.encode ((m : Nat) : Int)).data.toList.map UInt8.toNat = [(m : Nat)] := by decide +kernel
  have h2 := this ⟨n, by omega⟩
  simpa only using h2
theorem extract_bytes (bs : ByteArray) (l h : Nat) (h1 : l ≤ h) (h2 : h ≤ bs.size) : (bs.extract l h).data.toList.map UInt8.toNat = ((bs.data.toList.map UInt8.toNat).drop l).take (h - l) := by
  simp [ByteArray.data_extract, Array.toList_extract, List.extract, List.map_take, List.map_drop]
section
variable {P : Program} {ty : TypeId → Option TyI} {ibs : FuncId → Bool} {ρ : Rho} {e : E} {a : Act} (he : ER ρ e a) (w : World)
include he
theorem w_binOp (hty : TyOk P ty) {op : BinOp} {t : TypeId} {x y : Operand} {x' y' : O} (hx : cO x = some x') (hy : cO y = some y') {q : W} (h : cBin ty op t x' y' = some q) {v : V} (hv : wv e q = some v) :
    ∃ cv, (do eqGuard op t x y (a.eval x) (a.eval y); binOp op t (a.eval x) (a.eval y)).run P w = .ok cv w ∧ VR ρ v cv := by
  have key : ∀ (hop : op = .eql ∨ op = .neq), (match ty t with
    | some i => match i.u with
      | .int _ => some (W.bin op x' y')
      | .string => some (.bin op x' y')
      | .bool => some (.eqb (isNe op) x' y')
      | .slice _ => some (.eql (isNe op) x' y')
      | .pointer _ => some (.eqp (isNe op) x' y')
      | .func _ _ _ => some (.eqf (isNe op) x' y')
      | _ => none
    | none => none) = some q → ∃ cv, (do eqGuard op t x y (a.eval x) (a.eval y); binOp op t (a.eval x) (a.eval y)).run P w = .ok cv w ∧ VR ρ v cv := by
    intro hop h
    split at h
    · rename_i i hi
      have hu := hty.under hi
      split at h <;> simp only [Option.some.injEq, reduceCtorEq] at h <;> subst h
      · exact w_bin he w hx hy hv t
      · exact w_bin he w hx hy hv t
      · rename_i hd; exact w_eqb he w hop hx hy hv (by rw [hu, hd])
      · rename_i hd; exact w_eql he w hop hx hy hv (by rw [hu, hd])
      · rename_i hd; exact w_eqp he w hop hx hy hv (by rw [hu, hd])
      · rename_i hd; exact w_eqf he w hop hx hy hv (by rw [hu, hd])
    · simp at h
  cases op
  case eql => exact key (.inl rfl) h
  case neq => exact key (.inr rfl) h
  all_goals
    simp only [cBin, Option.some.injEq] at h
    subst h
    exact w_bin he w hx hy hv t
theorem w_un {op : UnOp} {x : Operand} {x' : O} (hx : cO x = some x') {v : V} (hv : wv e (.un op x') = some v) : ∃ cv, (Op.unary op (a.eval x)).run P w = .ok cv w ∧ VR ρ v cv := by
  simp only [wv] at hv
  split at hv
  · rename_i p h1
    rw [show a.eval x = .bool p from he.at hx h1]
    cases op <;> simp only [reduceCtorEq] at hv
    exact ⟨_, rfl, bb_vr hv⟩
  · rename_i p h1
    rw [show a.eval x = .int .i64 p from he.at hx h1]
    obtain ⟨cv, h3, h4⟩ := semS_sound ρ hv
    exact ⟨cv, by rw [h3]; rfl, h4⟩
  · rename_i k p h1
    rw [show a.eval x = .int k p from he.at hx h1]
    obtain ⟨cv, h3, h4⟩ := semS_sound ρ hv
    exact ⟨cv, by rw [h3]; rfl, h4⟩
  · simp at hv
theorem w_cv {t s : TypeId} {d : TypeDesc} {k : IntKind} (hs : P.underlying s = some d) (ht : P.underlying t = some (.int k)) {x : Operand} {x' : O} (hx : cO x = some x') {v : V} (hv : wv e (.cv k x') = some v) :
    ∃ cv, (convert s t (a.eval x)).run P w = .ok cv w ∧ VR ρ v cv := by
  simp only [wv] at hv
  split at hv <;> simp only [Option.some.injEq, reduceCtorEq] at hv
  · rename_i p h1
    rw [show a.eval x = .int .i64 p from he.at hx h1]
    subst hv
    exact ⟨_, by unfold convert; simp only [Sem.run_bind, run_under hs, run_under ht, Result.andThen_ok]; rfl, mkI_sr ρ _ _⟩
  · rename_i k' p h1
    rw [show a.eval x = .int k' p from he.at hx h1]
    subst hv
    exact ⟨_, by unfold convert; simp only [Sem.run_bind, run_under hs, run_under ht, Result.andThen_ok]; rfl, mkI_sr ρ _ _⟩
theorem w_cvs {t s : TypeId} {k : IntKind} (hs : P.underlying s = some (.int k)) (ht : P.underlying t = some .string) {x : Operand} {x' : O} (hx : cO x = some x') {v : V} (hv : wv e (.cvs x') = some v) :
    ∃ cv, (convert s t (a.eval x)).run P w = .ok cv w ∧ VR ρ v cv := by
  have key : ∀ (k' : IntKind) (n : Nat), (bif Nat.ble n 127 then some (V.c (.s [n])) else (none : Option V)) = some v → ∃ cv, (convert s t (.int k' (n : Int))).run P w = .ok cv w ∧ VR ρ v cv := by
    intro k' n h
    obtain ⟨h1, h2⟩ := cond_some h
    simp only [Option.some.injEq] at h2
    subst h2
    exact ⟨_, by unfold convert; simp only [Sem.run_bind, run_under hs, run_under ht, Result.andThen_ok]; rfl, _, rfl, encode_small n (Nat.le_of_ble_eq_true h1)⟩
  simp only [wv] at hv
  split at hv
  · rename_i p h1; rw [show a.eval x = .int .i64 (Int.ofNat p) from he.at hx h1]; exact key _ _ hv
  · rename_i k' p h1; rw [show a.eval x = .int k' (Int.ofNat p) from he.at hx h1]; exact key _ _ hv
  · simp at hv
theorem optEval {x : Option Operand} {y : Option O} (h : cOo x = some y) {d n : Nat} (hn : onD e d y = some n) :
    (x.map a.eval = none ∧ n = d) ∨ ∃ k, x.map a.eval = some (.int k n) := by
  rcases onD_sound he h hn with ⟨rfl, _, rfl⟩ | ⟨x', k, rfl, h2⟩
  · exact .inl ⟨rfl, rfl⟩
  · exact .inr ⟨k, by simp [h2]⟩
theorem w_sls {t : TypeId} (hu : P.underlying t = some .string) {x : Operand} {lo hi : Option Operand} {x' : O} {lo' hi' : Option O} (hx : cO x = some x') (hl : cOo lo = some lo') (hh : cOo hi = some hi') {v : V} (hv : wv e (.sls x' lo' hi') = some v) :
    ∃ cv, (Instr.sliceAt t (a.eval x) (lo.map a.eval) (hi.map a.eval) none).run P w = .ok cv w ∧ VR ρ v cv := by
  simp only [wv] at hv
  split at hv
  · rename_i l h1
    obtain ⟨bs, e1, rfl⟩ := he.at hx h1
    split at hv
    · rename_i p q h2 h3
      obtain ⟨h4, hv⟩ := cond_some hv
      replace h4 := ble2 h4
      rw [llen_eq, List.length_map] at h4
      have hsz : bs.data.toList.length = bs.size := Array.length_toList
      rw [llen_eq, List.length_map, hsz] at h3
      rw [hsz] at h4
      rw [e1]
      simp only [Option.some.injEq] at hv
      subst hv
      refine ⟨.string (bs.extract p q), ?_, _, rfl, ?_⟩
      · unfold Instr.sliceAt
        simp only [Sem.run_bind, run_under hu, Result.andThen_ok]
        unfold Instr.slice
        simp only [Sem.run_bind, run_under hu, Result.andThen_ok]
        simp only [Option.isSome_none, Bool.false_eq_true, if_false, Sem.run_bind, Sem.run_pure, Result.andThen_ok]
        rw [sliceBounds_run P w false bs.size bs.size p q (optEval he hl h2) (optEval he hh h3) h4.1 h4.2 (Nat.le_refl _)]
        rfl
      · rw [ltake_eq, ldrop_eq]
        exact extract_bytes bs p q h4.1 h4.2
    · simp at hv
  · simp at hv
end
end Go.Ev
end
section
set_option linter.unusedVariables false
set_option linter.unusedSimpArgs false
set_option maxRecDepth 20000
namespace Go.Ev
open Go
theorem add_addr (b o n : Nat) : (⟨b, o, none⟩ : Addr).add n = ⟨b, o + n, none⟩ := by unfold Addr.add; split <;> simp_all
theorem high {a : Act} {hi mx : Option Operand} {hi' mx' : Option O} (hh : cOo hi = some hi') (hm : cOo mx = some mx') (hmh : (mx'.isSome && hi'.isNone) = false)
    (h1 : hi.map a.eval = none) (h2 : ∃ v, mx.map a.eval = some v) : False := by
  cases hi with
  | some x => simp at h1
  | none =>
    simp only [cOo, Option.some.injEq] at hh
    subst hh
    cases mx with
    | none => simp at h2
    | some y =>
      unfold cOo at hm
      simp only at hm
      split at hm
      · simp only [Option.some.injEq] at hm; subst hm; simp at hmh
      · simp at hm
section
variable {P : Program} {ty : TypeId → Option TyI} {ibs : FuncId → Bool} {ρ : Rho} {e : E} {a : Act} (he : ER ρ e a) (w : World)
include he
theorem w_sll (hty : TyOk P ty) {t el : TypeId} {j : TyI} (hu : P.underlying t = some (.slice el)) (hj : ty el = some j) {x : Operand} {lo hi mx : Option Operand} {x' : O} {lo' hi' mx' : Option O} (hx : cO x = some x') (hl : cOo lo = some lo') (hh : cOo hi = some hi') (hm : cOo mx = some mx') (hmh : (mx'.isSome && hi'.isNone) = false) {v : V}
    (hv : wv e (.sll j.sz x' lo' hi' mx') = some v) :
    ∃ cv, (Instr.sliceAt t (a.eval x) (lo.map a.eval) (hi.map a.eval) (mx.map a.eval)).run P w = .ok cv w ∧ VR ρ v cv := by
  obtain ⟨inf, z, hi1, hi2, _, _, _⟩ := hty.info hj
  have hsz : ∀ w, (sizeOf el).run P w = .ok j.sz w := fun w => by rw [run_size hi1, hi2]
  simp only [wv] at hv
  have red : ∀ (q : Value), (Instr.sliceAt t q (lo.map a.eval) (hi.map a.eval) (mx.map a.eval)).run P w = (Instr.slice t q (lo.map a.eval) (hi.map a.eval) (mx.map a.eval)).run P w := fun q => by
    unfold Instr.sliceAt
    simp only [Sem.run_bind, run_under hu, Result.andThen_ok]
  rw [red]
  split at hv
  · rename_i h1
    rw [show a.eval x = .slice none 0 0 from he.at hx h1]
    split at hv
    · rename_i h2 h3 h4
      simp only [Option.some.injEq] at hv; subst hv
      refine ⟨.slice none 0 0, ?_, rfl⟩
      unfold Instr.slice
      simp only [Sem.run_bind, run_under hu, Result.andThen_ok]
      have hb : (Instr.sliceBounds true 0 0 (lo.map a.eval) (hi.map a.eval) (mx.map a.eval)).run P w = .ok (0, 0, 0) w := by
        rcases optEval he hm h4 with ⟨hm', _⟩ | ⟨k, hm'⟩
        · rw [hm']; exact sliceBounds_run P w true 0 0 0 0 (optEval he hl h2) (optEval he hh h3) (Nat.le_refl _) (Nat.le_refl _) (Nat.le_refl _)
        · rw [hm']
          rcases optEval he hh h3 with ⟨hh', _⟩ | ⟨k', hh'⟩
          · exact (high hh hm hmh hh' ⟨_, hm'⟩).elim
          · exact sliceBounds_run3 P w 0 0 0 0 0 (optEval he hl h2) ⟨k', hh'⟩ (Nat.le_refl _) (Nat.le_refl _) (Nat.le_refl _)
      simp only [Sem.run_bind, hb, Result.andThen_ok, hsz]
      rfl
    · simp at hv
  · rename_i bl o n sz' full h1
    obtain ⟨cb, sh, zz, ad, cap, r1, r2, r3, r4, r5, r6, r7⟩ := he.at hx h1
    replace hv := cond_some hv
    obtain ⟨h2, hv⟩ := hv
    simp only [nbeq, beq_iff_eq] at h2
    subst h2
    rw [r2]
    have fin : ∀ (p q m : Nat) (fl : Bool), p ≤ q → q ≤ m → m ≤ cap → (fl = true → m - p = q - p) → (Instr.sliceBounds true n cap (lo.map a.eval) (hi.map a.eval) (mx.map a.eval)).run P w = .ok (p, q, m) w →
        ∃ cv, (Instr.slice t (.slice (some ad) n cap) (lo.map a.eval) (hi.map a.eval) (mx.map a.eval)).run P w = .ok cv w ∧ VR ρ (.c (.l bl (Nat.add o (Nat.mul p j.sz)) (Nat.sub q p) j.sz fl)) cv := by
      intro p q m fl g1 g2 g3 g4 hb
      refine ⟨.slice (if m = p then some ad else some (ad.add (p * j.sz))) (q - p) (m - p), ?_, ?_⟩
      · unfold Instr.slice
        simp only [Sem.run_bind, run_under hu, Result.andThen_ok, hb, hsz]
        rfl
      · refine ⟨cb, sh, zz, if m = p then ad else ad.add (p * j.sz), m - p, r1, ?_, by show q - p ≤ m - p; omega, g4, ?_, ?_, r7⟩
        · split <;> rfl
        · intro hpos
          rw [if_neg (by omega), r5 (by omega), add_addr]
          show (⟨cb, sh + o + p * j.sz, none⟩ : Addr) = ⟨cb, sh + (o + p * j.sz), none⟩
          rw [Nat.add_assoc]
        · show sh + (o + p * j.sz) + (m - p) * j.sz ≤ zz
          have : p * j.sz + (m - p) * j.sz = m * j.sz := by rw [← Nat.add_mul]; congr 1; omega
          have h3 : m * j.sz ≤ cap * j.sz := Nat.mul_le_mul_right _ g3
          omega
    cases mx' with
    | none =>
      simp only at hv
      split at hv
      · rename_i p q h3 h4
        obtain ⟨h5, hv⟩ := cond_some hv
        obtain ⟨h5, h6⟩ := ble2 h5
        simp only [Option.some.injEq] at hv; subst hv
        have hm0 : mx.map a.eval = none := by
          cases mx with
          | none => rfl
          | some y => unfold cOo at hm; simp only at hm; split at hm <;> simp at hm
        refine fin p q cap _ h5 (by omega) (Nat.le_refl _) ?_ ?_
        · intro hf
          simp only [Bool.and_eq_true, nbeq, beq_iff_eq] at hf
          rw [r4 hf.1, hf.2]
        · rw [hm0]
          exact sliceBounds_run P w true n cap p q (optEval he hl h3) (optEval he hh h4) h5 h6 r3
      · simp at hv
    | some m' =>
      simp only at hv
      split at hv
      · rename_i p q m h3 h4 h5
        obtain ⟨h6, hv⟩ := cond_some hv
        obtain ⟨h6, h7, h8⟩ := ble3 h6
        simp only [Option.some.injEq] at hv; subst hv
        rcases optEval (d := 0) he hm (n := m) h5 with ⟨hm', _⟩ | ⟨k, hm'⟩
        · exfalso
          cases mx with
          | none => simp [cOo] at hm
          | some y => simp at hm'
        · refine fin p q m _ h6 h7 (by omega) ?_ ?_
          · intro hf
            simp only [nbeq, beq_iff_eq] at hf
            omega
          · rw [hm']
            rcases optEval he hh h4 with ⟨hh', _⟩ | ⟨k', hh'⟩
            · exact (high hh hm hmh hh' ⟨_, hm'⟩).elim
            · exact sliceBounds_run3 P w n cap p q m (optEval he hl h3) ⟨k', hh'⟩ h6 h7 (by omega)
      · simp at hv
  · simp at hv
theorem w_fad (hty : TyOk P ty) {t : TypeId} {fs : Array Field} (hu : P.underlying t = some (.struct fs)) {k : Nat} {f : Field} (hf : fs[k]? = some f) {j : TyI} (hj : ty f.type = some j) (hz : j.sz ≠ 0) {x : Operand} {x' : O} (hx : cO x = some x') {v : V}
    (hv : wv e (.fad f.offset x') = some v) : ∃ cv, (Instr.fieldAt t (a.eval x) k).run P w = .ok cv w ∧ VR ρ v cv := by
  obtain ⟨inf, z, hi1, hi2, _, _, _⟩ := hty.info hj
  simp only [wv] at hv
  split at hv
  · rename_i p q h1
    simp only [Option.some.injEq] at hv; subst hv
    obtain ⟨cb, sh, zz, r1, r2⟩ := he.at hx h1
    rw [r2]
    refine ⟨.pointer (some (Addr.add ⟨cb, sh + q, none⟩ f.offset)), ?_, cb, sh, zz, r1, ?_⟩
    · unfold Instr.fieldAt
      simp only [Sem.run_bind, run_under hu, Result.andThen_ok, hf]
      simp only [Instr.sureAddr, fieldPlace, Sem.run_bind, Sem.run_pure, Result.andThen_ok, run_size hi1]
      rw [if_neg (by rw [hi2]; exact hz)]
      rfl
    · rw [add_addr, Nat.add_assoc]; rfl
  · simp at hv
theorem w_fld (hty : TyOk P ty) {t : TypeId} {fs : Array Field} (hu : P.underlying t = some (.struct fs)) {k : Nat} {f : Field} (hf : fs[k]? = some f) {j : TyI} (hj : ty f.type = some j) {x : Operand} {x' : O} (hx : cO x = some x') {v : V}
    (hv : wv e (.fld f.offset (if isAggD j.u then some j.sz else none) x') = some v) : ∃ cv, (Instr.field t (a.eval x) k).run P w = .ok cv w ∧ VR ρ v cv := by
  obtain ⟨inf, z, hi1, hi2, _, _, _⟩ := hty.info hj
  have hu2 := hty.under hj
  simp only [wv] at hv
  have hxv := he.ov hx
  split at hv
  · rename_i l h1
    rw [h1] at hxv
    obtain ⟨arr, r1, r2⟩ := hxv
    rw [r1]
    have red : ∀ cv, (part f.type arr f.offset).run P w = .ok cv w → (Instr.field t (.agg arr) k).run P w = .ok cv w := fun cv hh => by
      unfold Instr.field
      simp only [Sem.run_bind, run_under hu, Result.andThen_ok, hf, asAgg, Sem.run_pure, hh]
    cases hag : isAggD j.u with
    | true =>
      rw [hag] at hv
      simp only [if_true] at hv
      obtain ⟨h2, hv⟩ := cond_some hv
      have h2 := Nat.le_of_ble_eq_true h2
      simp only [llen_eq, Nat.add_eq] at h2
      simp only [Option.some.injEq] at hv; subst hv
      refine ⟨.agg (arr.extract f.offset (f.offset + j.sz)), red _ ?_, _, rfl, ?_⟩
      · unfold part
        simp only [Sem.run_bind, run_isAgg hu2, Result.andThen_ok, hag, if_true, run_size hi1, hi2]
        rfl
      · rw [ltake_eq, ldrop_eq, Array.toList_extract, List.extract_eq_take_drop]
        rw [Nat.add_sub_cancel_left]
        exact (r2.drop _).take _
    | false =>
      rw [hag] at hv
      simp only [Bool.false_eq_true, if_false] at hv
      split at hv
      · rename_i s h2
        simp only [Option.some.injEq] at hv; subst hv
        rw [lget_eq] at h2
        obtain ⟨b, h3, h4⟩ := r2.get h2
        refine ⟨b, red _ ?_, h4⟩
        have h5 : arr[f.offset]? = some b := by simpa using h3
        unfold part
        simp only [Sem.run_bind, run_isAgg hu2, Result.andThen_ok, hag, Bool.false_eq_true, if_false, h5]
        rfl
      · simp at hv
  · simp at hv
theorem w_iad (hty : TyOk P ty) {t el : TypeId} {j : TyI} (hu : P.underlying t = some (.slice el)) (hj : ty el = some j) {x ix : Operand} {x' ix' : O} (hx : cO x = some x') (hix : cO ix = some ix') {v : V}
    (hv : wv e (.iad j.sz x' ix') = some v) : ∃ cv, (Instr.indexAt t (a.eval x) (a.eval ix)).run P w = .ok cv w ∧ VR ρ v cv := by
  obtain ⟨inf, z, hi1, hi2, _, _, _⟩ := hty.info hj
  simp only [wv] at hv
  split at hv
  · rename_i bl o n sz' full h1
    obtain ⟨cb, sh, zz, ad, cap, r1, r2, r3, r4, r5, r6, r7⟩ := he.at hx h1
    split at hv
    · rename_i i h2
      replace hv := cond_some hv
      obtain ⟨h3, hv⟩ := hv
      obtain ⟨k, h4⟩ := onj_sound he hix h2
      obtain ⟨h5, h6⟩ := (Bool.and_eq_true _ _).mp h3
      rw [nbeq, beq_iff_eq] at h5
      subst h5
      have h6 := Nat.le_of_ble_eq_true h6
      simp only [Option.some.injEq] at hv; subst hv
      rw [r2, h4]
      have hlt : i < n := h6
      refine ⟨.pointer (some (ad.add (i * j.sz))), ?_, cb, sh, zz, r1, ?_⟩
      · unfold Instr.indexAt
        simp only [asIntOf, Sem.run_bind, Sem.run_pure, Result.andThen_ok, run_under hu]
        have hc : (0 ≤ (i : Int) ∧ (i : Int) < (n : Int)) := by omega
        simp only [hc, and_self, if_true, Sem.run_bind, run_size hi1, Result.andThen_ok, hi2, Int.toNat_natCast]
        rfl
      · rw [r5 (by omega), add_addr, Nat.add_assoc]; rfl
    · simp at hv
  · simp at hv
theorem w_ixs {t : TypeId} (hu : P.underlying t = some .string) {x ix : Operand} {x' ix' : O} (hx : cO x = some x') (hix : cO ix = some ix') {v : V}
    (hv : wv e (.ixs x' ix') = some v) : ∃ cv, (Instr.index t (a.eval x) (a.eval ix)).run P w = .ok cv w ∧ VR ρ v cv := by
  simp only [wv] at hv
  split at hv
  · rename_i l h1
    obtain ⟨bs, r1, rfl⟩ := he.at hx h1
    split at hv
    · rename_i i h2
      obtain ⟨k, h4⟩ := onj_sound he hix h2
      split at hv
      · rename_i b h3
        simp only [Option.some.injEq] at hv; subst hv
        rw [lget_eq, List.getElem?_map] at h3
        obtain ⟨c, h5, h6⟩ := Option.map_eq_some_iff.1 h3
        rw [r1, h4]
        subst h6
        refine ⟨.int .u8 c.toNat, ?_, rfl⟩
        have h7 : bs[i]? = some c := by
          obtain ⟨h8, h9⟩ := List.getElem?_eq_some_iff.1 h5
          have h10 : i < bs.size := by simpa using h8
          rw [getElem?_pos bs i h10]
          congr 1
        unfold Instr.index
        simp only [asIntOf, Sem.run_bind, Sem.run_pure, Result.andThen_ok, run_under hu]
        have hc : (0 : Int) ≤ (i : Int) := by omega
        simp only [hc, if_true, Int.toNat_natCast, h7]
        rfl
      · simp at hv
    · simp at hv
  · simp at hv
end
end Go.Ev
end
section
set_option linter.unusedVariables false
set_option linter.unusedSimpArgs false
set_option maxRecDepth 20000
namespace Go.Ev
open Go
section
variable {P : Program} {ty : TypeId → Option TyI} {ibs : FuncId → Bool} {ρ : Rho} {e : E} {a : Act} (he : ER ρ e a) (w : World)
include he
theorem w_builtin (hty : TyOk P ty) {b : Builtin} {args : List Operand} {ts : Array TypeId} {l : List O} (hl : cOs args = some l) {q : W} (h : cBuiltin ty b l ts.toList = some (.w q)) {v : V} (hv : wv e q = some v) (type : TypeId) (cs : Array Bool) :
    ∃ cv, (builtin b ts type cs (args.map a.eval).toArray).run P w = .ok (.value cv) w ∧ VR ρ v cv := by
  have two : ∀ {x y : O}, cOs args = some [x, y] → ∃ x' y', args = [x', y'] ∧ cO x' = some x ∧ cO y' = some y := by
    intro x y h
    match args, h with
    | [x', y'], h =>
      unfold cOs at h
      split at h
      · rename_i y1 m1 h1 h2
        simp only [Option.some.injEq, List.cons.injEq] at h
        obtain ⟨rfl, rfl⟩ := h
        unfold cOs at h2
        split at h2
        · rename_i y2 m2 h3 h4
          simp only [Option.some.injEq, List.cons.injEq] at h2
          obtain ⟨rfl, _⟩ := h2
          exact ⟨x', y', rfl, h1, h3⟩
        · simp at h2
      · simp at h
    | [], h => simp [cOs] at h
    | [x'], h => unfold cOs at h; split at h <;> simp_all [cOs]
    | x' :: y' :: z' :: r, h =>
      unfold cOs at h
      split at h
      · rename_i y1 m1 h1 h2
        simp only [Option.some.injEq, List.cons.injEq] at h
        obtain ⟨rfl, rfl⟩ := h
        unfold cOs at h2
        split at h2
        · rename_i y2 m2 h3 h4
          simp only [Option.some.injEq, List.cons.injEq] at h2
          obtain ⟨rfl, rfl⟩ := h2
          unfold cOs at h4
          split at h4 <;> simp at h4
        · simp at h2
      · simp at h
  have one : ∀ {x : O}, cOs args = some [x] → ∃ x', args = [x'] ∧ cO x' = some x := by
    intro x h
    match args, h with
    | [x'], h =>
      unfold cOs at h
      split at h
      · rename_i y1 m1 h1 h2
        simp only [Option.some.injEq, List.cons.injEq] at h
        obtain ⟨rfl, rfl⟩ := h
        exact ⟨x', rfl, h1⟩
      · simp at h
    | [], h => simp [cOs] at h
    | x' :: y' :: r, h =>
      unfold cOs at h
      split at h
      · rename_i y1 m1 h1 h2
        simp only [Option.some.injEq, List.cons.injEq] at h
        obtain ⟨rfl, rfl⟩ := h
        unfold cOs at h2
        split at h2 <;> simp at h2
      · simp at h
  unfold cBuiltin at h
  split at h
  · rename_i x t ht
    obtain ⟨x', rfl, hx⟩ := one hl
    have ht' : ts = #[t] := by rw [← Array.toArray_toList (xs := ts), ht]
    subst ht'
    split at h
    · rename_i i hi
      have hu := hty.under hi
      split at h <;> simp only [Option.some.injEq, reduceCtorEq, MO.w.injEq] at h <;> subst h
      · rename_i hd
        rw [hd] at hu
        simp only [wv] at hv
        split at hv
        · rename_i l' h1
          obtain ⟨bs, r1, r2⟩ := he.at hx h1
          simp only [Option.some.injEq] at hv; subst hv
          refine ⟨.int .i64 bs.size, ?_, ?_⟩
          · simp only [List.map_cons, List.map_nil, r1]
            unfold builtin Builtin.len_
            simp [run_under hu, goInt]
          · show _ = _
            rw [llen_eq, ← r2, List.length_map]
            rfl
        · simp at hv
      · rename_i el hd
        rw [hd] at hu
        simp only [wv] at hv
        split at hv <;> simp only [Option.some.injEq, reduceCtorEq] at hv <;> subst hv
        · rename_i h1
          refine ⟨.int .i64 0, ?_, rfl⟩
          rw [show List.map a.eval [x'] = [.slice none 0 0] by simp; exact he.at hx h1]
          unfold builtin Builtin.len_
          simp [run_under hu, goInt]
        · rename_i bl o n sz full h1
          obtain ⟨cb, sh, zz, ad, cap, r1, r2, _⟩ := he.at hx h1
          refine ⟨.int .i64 n, ?_, rfl⟩
          simp only [List.map_cons, List.map_nil, r2]
          unfold builtin Builtin.len_
          simp [run_under hu, goInt]
    · simp at h
  · rename_i x t ht
    obtain ⟨x', rfl, hx⟩ := one hl
    have ht' : ts = #[t] := by rw [← Array.toArray_toList (xs := ts), ht]
    subst ht'
    split at h
    · rename_i i hi
      have hu := hty.under hi
      split at h <;> simp only [Option.some.injEq, reduceCtorEq, MO.w.injEq] at h <;> subst h
      · rename_i el hd
        rw [hd] at hu
        simp only [wv] at hv
        split at hv
        · rename_i h1
          simp only [Option.some.injEq] at hv; subst hv
          refine ⟨.int .i64 0, ?_, rfl⟩
          rw [show List.map a.eval [x'] = [.slice none 0 0] by simp; exact he.at hx h1]
          unfold builtin Builtin.cap_
          simp [run_under hu, goInt]
        · rename_i bl o n sz full h1
          obtain ⟨hf, hv⟩ := cond_some hv
          simp only [Option.some.injEq] at hv; subst hv
          obtain ⟨cb, sh, zz, ad, cap, r1, r2, r3, r4, _⟩ := he.at hx h1
          have r5 := r4 hf
          refine ⟨.int .i64 n, ?_, rfl⟩
          simp only [List.map_cons, List.map_nil, r2]
          unfold builtin Builtin.cap_
          simp [run_under hu, goInt, r5]
        · simp at hv
    · simp at h
  · rename_i x y _
    simp only [Option.some.injEq, MO.w.injEq] at h; subst h
    obtain ⟨x', y', rfl, hx, hy⟩ := two hl
    simp only [wv] at hv
    split at hv
    · rename_i p q h1 h2
      simp only [Option.some.injEq] at hv; subst hv
      refine ⟨.int .i64 (if q < p then q else p), ?_, ?_⟩
      · rw [show List.map a.eval [x', y'] = [.int .i64 p, .int .i64 q] by simp; exact ⟨he.at hx h1, he.at hy h2⟩]
        unfold builtin Builtin.min_
        simp [Builtin.min2]
      · show _ = _
        simp only [cond_false, ile_eq]
        congr 1
        by_cases hc : p ≤ q
        · simp [hc, show ¬ q < p by omega]
        · simp [hc, show q < p by omega]
    · simp at hv
  · rename_i x y _
    simp only [Option.some.injEq, MO.w.injEq] at h; subst h
    obtain ⟨x', y', rfl, hx, hy⟩ := two hl
    simp only [wv] at hv
    split at hv
    · rename_i p q h1 h2
      simp only [Option.some.injEq] at hv; subst hv
      refine ⟨.int .i64 (if q > p then q else p), ?_, ?_⟩
      · rw [show List.map a.eval [x', y'] = [.int .i64 p, .int .i64 q] by simp; exact ⟨he.at hx h1, he.at hy h2⟩]
        unfold builtin Builtin.max_
        simp [Builtin.max2]
      · show _ = _
        simp only [cond_true, ile_eq]
        congr 1
        by_cases hc : q ≤ p
        · simp [hc, show ¬ q > p by omega]
        · simp [hc, show q > p by omega]
    · simp at hv
  · split at h
    · split at h
      · simp at h
      · split at h
        · simp at h
        · split at h <;> simp at h
    · simp at h
  · split at h
    · split at h <;> simp at h
    · simp at h
  · simp at h
end
end Go.Ev
end
section
set_option linter.unusedVariables false
set_option linter.unusedSimpArgs false
set_option maxRecDepth 20000
namespace Go.Ev
open Go
theorem cOs_two {args : List Operand} {x y : O} (h : cOs args = some [x, y]) : ∃ x' y', args = [x', y'] ∧ cO x' = some x ∧ cO y' = some y := by
  match args, h with
  | [x', y'], h =>
    unfold cOs at h
    split at h
    · rename_i y1 m1 h1 h2
      simp only [Option.some.injEq, List.cons.injEq] at h
      obtain ⟨rfl, rfl⟩ := h
      unfold cOs at h2
      split at h2
      · rename_i y2 m2 h3 h4
        simp only [Option.some.injEq, List.cons.injEq] at h2
        obtain ⟨rfl, _⟩ := h2
        exact ⟨x', y', rfl, h1, h3⟩
      · simp at h2
    · simp at h
  | [], h => simp [cOs] at h
  | [x'], h => unfold cOs at h; split at h <;> simp_all [cOs]
  | x' :: y' :: z' :: r, h =>
    unfold cOs at h
    split at h
    · rename_i y1 m1 h1 h2
      simp only [Option.some.injEq, List.cons.injEq] at h
      obtain ⟨rfl, rfl⟩ := h
      unfold cOs at h2
      split at h2
      · rename_i y2 m2 h3 h4
        simp only [Option.some.injEq, List.cons.injEq] at h2
        obtain ⟨rfl, rfl⟩ := h2
        unfold cOs at h4
        split at h4 <;> simp at h4
      · simp at h2
    · simp at h
theorem exec_call {P : Program} {ρ : Operand → Value} {c : Call} {type : TypeId} {w : World} {f : FuncId} (hc : c.callee = .value (.func f)) (hf : ρ (.func f) = .func (.func f) #[] #[]) :
    (do let d ← resolve ρ c type; invoke d.target d.args : Sem Next).run P w = (callFunc f (c.args.map ρ)).run P w := by
  unfold resolve
  simp only [hc, hf, Deferred.ofValue, Sem.run_bind, Sem.run_pure, Result.andThen_ok, invoke]
  simp
theorem exec_builtin {P : Program} {ρ : Operand → Value} {c : Call} {type : TypeId} {w : World} {b : Builtin} (hc : c.callee = .builtin b) :
    (do let d ← resolve ρ c type; invoke d.target d.args : Sem Next).run P w = (builtin b c.argTypes type (c.args.map fun | .const _ => true | _ => false) (c.args.map ρ)).run P w := by
  unfold resolve
  simp only [hc, Sem.run_bind, Sem.run_pure, Result.andThen_ok, invoke]
  rfl
theorem mapM_sizes {P : Program} {ty : TypeId → Option TyI} (hty : TyOk P ty) (w : World) : ∀ (fs : List Field), (fs.all fun f => (ty f.type).isSome) = true →
    (fs.mapM fun f => (do pure (f.offset, ← sizeOf f.type) : Sem (Nat × Nat))).run P w = .ok (fs.map fun f => (f.offset, ((ty f.type).map (·.sz)).getD 0)) w
  | [], _ => by simp
  | f :: fs, h => by
    simp only [List.all_cons, Bool.and_eq_true] at h
    obtain ⟨j, hj⟩ := Option.isSome_iff_exists.1 h.1
    obtain ⟨inf, z, hi1, hi2, _, _, _⟩ := hty.info hj
    simp only [List.mapM_cons, Sem.run_bind, run_size hi1, Result.andThen_ok, Sem.run_pure, mapM_sizes hty w fs h.2, List.map_cons, hj, Option.map_some, Option.getD_some, hi2]
theorem w_build {P : Program} {ty : TypeId → Option TyI} (hty : TyOk P ty) {ρ : Rho} {e : E} {a : Act} (he : ER ρ e a) {t : TypeId} {i : TyI} (hi : ty t = some i) (hok : placesOk ty i.u = true)
    {ps : Array (Nat × Operand)} {qs : List (Nat × Nat × O)} (hq : cParts (place ty i.u) ps.toList = some qs) {l : List S} (hl : putAll i.z e qs = some l) (w : World) :
    ∃ arr : Array Value, (Instr.build t (ps.map fun (i, x) => (i, a.eval x))).run P w = .ok (.agg arr) w ∧ LR (SR ρ) l arr.toList := by
  have hu := hty.under hi
  obtain ⟨inf, z, hi1, hi2, hi3, hi4, hi5⟩ := hty.info hi
  obtain ⟨out, h1, h2⟩ := putAll_sound he hq hl (valL_lr ρ hi5)
  have hps : (ps.map fun (i, x) => (i, a.eval x)).toList = ps.toList.map fun p => (p.1, a.eval p.2) := by simp
  refine ⟨out, ?_, h2⟩
  unfold Instr.build
  simp only [Sem.run_bind, run_zero hi1 hi4, Result.andThen_ok, run_under hu]
  cases hd : i.u <;> rw [hd] at hok h1 <;> simp only [placesOk, Bool.false_eq_true] at hok
  case struct fs =>
    have hm := mapM_sizes hty w fs.toList hok
    have hm' : (fs.mapM fun f => (do pure (f.offset, ← sizeOf f.type) : Sem (Nat × Nat))).run P w = .ok (fs.toList.map fun f => (f.offset, ((ty f.type).map (·.sz)).getD 0)).toArray w := by
      rw [Array.mapM_eq_mapM_toList, Sem.run_map, hm]; rfl
    simp only [Sem.run_bind, hm', Result.andThen_ok]
    have hpl : (fun x => ((fs.toList.map fun f => (f.offset, ((ty f.type).map (·.sz)).getD 0)).toArray)[x]?) = place ty (.struct fs) := by
      funext k
      simp only [place, List.getElem?_toArray, List.getElem?_map, Array.getElem?_toList]
      cases hk : fs[k]? with
      | none => rfl
      | some f =>
        have : f ∈ fs.toList := by
          obtain ⟨hk1, hk2⟩ := Array.getElem?_eq_some_iff.1 hk
          rw [← hk2]; simp
        obtain ⟨j, hj⟩ := Option.isSome_iff_exists.1 (List.all_eq_true.1 hok f this)
        simp [hj]
    rw [hpl, hps, h1]
    rfl
  case array n el =>
    obtain ⟨j, hj⟩ := Option.isSome_iff_exists.1 hok
    obtain ⟨inf', z', hj1, hj2, _, _, _⟩ := hty.info hj
    simp only [Sem.run_bind, run_size hj1, Result.andThen_ok, hj2]
    have hpl : (fun k => some (k * j.sz, j.sz)) = place ty (.array n el) := by
      funext k; simp [place, hj]
    rw [hpl, hps, h1]
    rfl
theorem wv_sound {P : Program} {ty : TypeId → Option TyI} {ibs : FuncId → Bool} (hty : TyOk P ty) (hib : IbsOk P ibs) {op : Op} {x : W} (h : cMO ty ibs op = some (.w x)) {ρ : Rho} {e : E} {a : Act} (he : ER ρ e a)
    {v : V} (hv : wv e x = some v) (dst : Option Tmp) (type : TypeId) (pos : String) (after : Array Edge) (guard : Option (Nat × Bool)) (w : World) :
    ∃ cv, (execOp a.eval ⟨dst, op, type, pos, after, guard⟩).run P w = .ok (.value cv) w ∧ VR ρ v cv := by
  cases op
  case move y =>
    simp only [cMO, Option.map_eq_some_iff] at h
    obtain ⟨y', hy, h⟩ := h
    simp only [MO.w.injEq] at h; subst h
    simp only [wv, Option.some.injEq] at hv; subst hv
    exact ⟨_, rfl, he.ov hy⟩
  case assign y =>
    simp only [cMO, Option.map_eq_some_iff] at h
    obtain ⟨y', hy, h⟩ := h
    simp only [MO.w.injEq] at h; subst h
    simp only [wv, Option.some.injEq] at hv; subst hv
    exact ⟨_, rfl, he.ov hy⟩
  case pick c p q =>
    simp only [cMO] at h
    split at h <;> simp only [Option.some.injEq, reduceCtorEq, MO.w.injEq] at h
    rename_i c' p' q' h1 h2 h3
    subst h
    simp only [wv] at hv
    split at hv
    · rename_i b h4
      simp only [Option.some.injEq] at hv; subst hv
      have hc : a.eval c = .bool b := he.at h1 h4
      refine ⟨if b then a.eval p else a.eval q, ?_, ?_⟩
      · simp [execOp, hc, asBool]
      · cases b
        · exact he.ov h3
        · exact he.ov h2
    · simp at hv
  case build t ps =>
    simp only [cMO] at h
    split at h
    · rename_i i hi
      split at h
      · rename_i hok
        simp only [Option.map_eq_some_iff] at h
        obtain ⟨l, hl, h⟩ := h
        simp only [MO.w.injEq] at h; subst h
        simp only [wv] at hv
        split at hv
        · rename_i m hm
          simp only [Option.some.injEq] at hv; subst hv
          obtain ⟨arr, h1, h2⟩ := w_build hty he hi hok hl hm w
          exact ⟨_, execV h1, arr, rfl, h2⟩
        · simp at hv
      · simp at h
    · simp at h
  case nilCheck y =>
    simp only [cMO, Option.map_eq_some_iff] at h
    obtain ⟨y', hy, h⟩ := h
    simp only [MO.w.injEq] at h; subst h
    simp only [wv] at hv
    split at hv <;> simp only [Option.some.injEq, reduceCtorEq] at hv <;> subst hv
    · rename_i p q h1
      have h2 : SR ρ (.p p q) (a.eval y) := he.at hy h1
      refine ⟨a.eval y, ?_, h2⟩
      obtain ⟨cb, sh, zz, r1, r2⟩ := h2
      simp [execOp, r2]
    · rename_i g cs h1
      have h2 : SR ρ (.f g cs) (a.eval y) := he.at hy h1
      refine ⟨a.eval y, ?_, h2⟩
      obtain ⟨arr, r1, r2⟩ := h2
      simp [execOp, r1]
  case binOp op t y z t' =>
    simp only [cMO] at h
    split at h
    · rename_i y' z' h1 h2
      simp only [Option.map_eq_some_iff] at h
      obtain ⟨q, hq, h⟩ := h
      simp only [MO.w.injEq] at h; subst h
      obtain ⟨cv, h3, h4⟩ := w_binOp he w hty h1 h2 hq hv
      exact ⟨cv, execV h3, h4⟩
    · simp at h
  case unOp op t y =>
    simp only [cMO, Option.map_eq_some_iff] at h
    obtain ⟨y', hy, h⟩ := h
    simp only [MO.w.injEq] at h; subst h
    obtain ⟨cv, h3, h4⟩ := w_un (P := P) he w hy hv
    exact ⟨cv, execV h3, h4⟩
  case convert s d y =>
    simp only [cMO] at h
    split at h
    · rename_i i j y' h1 h2 h3
      split at h
      · rename_i k hi hj
        simp only [Option.some.injEq, MO.w.injEq] at h; subst h
        obtain ⟨cv, h4, h5⟩ := w_cv he w (hty.under h1) (by rw [hty.under h2]; exact congrArg _ hj) h3 hv
        exact ⟨cv, execV h4, h5⟩
      · rename_i hi hj
        simp only [Option.some.injEq, MO.w.injEq] at h; subst h
        obtain ⟨cv, h4, h5⟩ := w_cvs he w (by rw [hty.under h1]; exact congrArg _ hi) (by rw [hty.under h2]; exact congrArg _ hj) h3 hv
        exact ⟨cv, execV h4, h5⟩
      · split at h
        · split at h <;> simp at h
        · simp at h
      · simp at h
    · simp at h
  case makeFunc fn first caps =>
    cases fn <;> simp only [cMO, reduceCtorEq] at h
    rename_i g
    split at h
    · rename_i hf
      simp only [Option.map_eq_some_iff] at h
      obtain ⟨l, hl, h⟩ := h
      simp only [MO.w.injEq] at h; subst h
      simp only [wv] at hv
      split at hv
      · rename_i m hm
        simp only [Option.some.injEq] at hv; subst hv
        have hf' : first = #[] := by simpa using hf
        subst hf'
        refine ⟨.func (.func g) #[] (caps.map a.eval), ?_, _, rfl, ?_⟩
        · simp [execOp, Instr.makeFunc]
        · rw [Array.toList_map]
          exact ptrs_sound he hl hm
      · simp at hv
    · simp at h
  case slice t y lo hi mx =>
    simp only [cMO] at h
    split at h
    · rename_i i y' lo' hi' mx' h1 h2 h3 h4 h5
      split at h
      · rename_i hd
        split at h
        · simp only [Option.some.injEq, MO.w.injEq] at h; subst h
          have hm0 : mx = none := by
            cases mx with
            | none => rfl
            | some q => unfold cOo at h5; simp only at h5; split at h5 <;> simp at h5
          subst hm0
          obtain ⟨cv, h6, h7⟩ := w_sls he w (by rw [hty.under h1]; exact congrArg _ hd) h2 h3 h4 hv
          exact ⟨cv, execV h6, h7⟩
        · simp at h
      · rename_i el hd
        split at h
        · rename_i j hj
          split at h
          · simp at h
          · rename_i hmh
            simp only [Option.some.injEq, MO.w.injEq] at h; subst h
            obtain ⟨cv, h6, h7⟩ := w_sll he w hty (by rw [hty.under h1]; exact congrArg _ hd) hj h2 h3 h4 h5 (Bool.eq_false_iff.2 hmh) hv
            exact ⟨cv, execV h6, h7⟩
        · simp at h
      · simp at h
    · simp at h
  case fieldAddr t y k =>
    simp only [cMO] at h
    split at h
    · rename_i i y' h1 h2
      split at h
      · rename_i fs hd
        split at h
        · rename_i f hf
          split at h
          · rename_i j hj
            split at h
            · simp at h
            · rename_i hz
              simp only [Option.some.injEq, MO.w.injEq] at h; subst h
              obtain ⟨cv, h6, h7⟩ := w_fad he w hty (by rw [hty.under h1]; exact congrArg _ hd) hf hj hz h2 hv
              exact ⟨cv, execV h6, h7⟩
          · simp at h
        · simp at h
      · simp at h
    · simp at h
  case field t y k =>
    simp only [cMO] at h
    split at h
    · rename_i i y' h1 h2
      split at h
      · rename_i fs hd
        split at h
        · rename_i f hf
          split at h
          · rename_i j hj
            simp only [Option.some.injEq, MO.w.injEq] at h; subst h
            obtain ⟨cv, h6, h7⟩ := w_fld he w hty (by rw [hty.under h1]; exact congrArg _ hd) hf hj h2 hv
            exact ⟨cv, execV h6, h7⟩
          · simp at h
        · simp at h
      · simp at h
    · simp at h
  case indexAddr t y ix =>
    simp only [cMO] at h
    split at h <;> simp only [Option.some.injEq, reduceCtorEq, MO.w.injEq] at h
    rename_i j y' ix' h1 h2 h3
    subst h
    obtain ⟨el, h4, h5⟩ := hty.elem h1
    obtain ⟨cv, h6, h7⟩ := w_iad he w hty h4 h5 h2 h3 hv
    exact ⟨cv, execV h6, h7⟩
  case index t y ix =>
    simp only [cMO] at h
    split at h
    · rename_i i y' ix' h1 h2 h3
      split at h <;> simp only [Option.some.injEq, reduceCtorEq, MO.w.injEq] at h
      rename_i hd
      subst h
      obtain ⟨cv, h6, h7⟩ := w_ixs he w (by rw [hty.under h1]; exact congrArg _ hd) h2 h3 hv
      exact ⟨cv, execV h6, h7⟩
    · simp at h
  case extract y i =>
    simp only [cMO, Option.map_eq_some_iff] at h
    obtain ⟨y', hy, h⟩ := h
    simp only [MO.w.injEq] at h; subst h
    simp only [wv] at hv
    split at hv
    · rename_i l h1
      have h2 := he.ov hy
      rw [h1] at h2
      obtain ⟨arr, r1, r2⟩ := h2
      rw [lget_eq] at hv
      obtain ⟨b, h3, h4⟩ := r2.get hv
      have h5 : arr[i]? = some b := by simpa using h3
      refine ⟨b, ?_, VR.of0 h4⟩
      simp [execOp, r1, Instr.extract, h5]
    · simp at hv
  case call c =>
    simp only [cMO] at h
    split at h
    · rename_i l hl
      split at h
      · rename_i b hc
        obtain ⟨cv, h1, h2⟩ := w_builtin (P := P) he w hty hl h hv type (c.args.map fun | .const _ => true | _ => false)
        refine ⟨cv, ?_, h2⟩
        rw [show execOp a.eval ⟨dst, .call c, type, pos, after, guard⟩ = (do let d ← resolve a.eval c type; invoke d.target d.args) from rfl, exec_builtin hc]
        rw [show c.args.map a.eval = (c.args.toList.map a.eval).toArray by rw [← Array.toList_map]]
        exact h1
      · rename_i f hc
        split at h
        · rename_i hf
          split at h
          · rename_i p q
            simp only [Option.some.injEq, MO.w.injEq] at h; subst h
            obtain ⟨x', y', h1, h2, h3⟩ := cOs_two hl
            simp only [wv] at hv
            split at hv
            · rename_i s n h4 h5
              obtain ⟨hn, hv⟩ := cond_some hv
              have hn := Nat.le_of_ble_eq_true hn
              simp only [Option.some.injEq] at hv; subst hv
              obtain ⟨bs, r1, r2⟩ := he.at h2 h4
              have r3 : a.eval y' = .int .u8 (Int.ofNat n) := he.at h3 h5
              refine ⟨.int .i64 (Lib.indexByte bs.data.toList (n : Int).toNat.toUInt8), ?_, ?_⟩
              · rw [show execOp a.eval ⟨dst, .call c, type, pos, after, guard⟩ = (do let d ← resolve a.eval c type; invoke d.target d.args) from rfl, exec_call hc rfl]
                refine hib f hf _ _ w ?_
                rw [show c.args.map a.eval = #[.string bs, .int .u8 (n : Int)] by rw [← Array.toArray_toList (xs := c.args), h1]; simp [r1, r3]]
                exact Lib.run_indexByteString bs _ w
              · show _ = _
                have hb : (n : Int).toNat.toUInt8.toNat = n := by
                  simp only [Int.toNat_natCast, Nat.toUInt8, UInt8.toNat_ofNat']
                  omega
                have h6 := find_spec (n : Int).toNat.toUInt8 bs.data.toList 0
                rw [hb, r2] at h6
                rw [h6]
                split
                · rename_i h7; rw [h7]
                · simp
            · simp at hv
          · simp at h
        · simp at h
      · simp only [Option.map_eq_some_iff, reduceCtorEq, and_false, exists_false] at h
      · simp at h
    · simp at h
  all_goals
    first
      | (simp only [cMO, reduceCtorEq] at h; done)
      | (simp only [cMO, Option.map_eq_some_iff, reduceCtorEq, and_false, exists_false] at h; done)
      | (simp only [cMO] at h; (repeat' split at h) <;> simp at h; done)
end Go.Ev
end
