/-
Every operation that touches no memory, the last of them, and all together.
-/
import Derived.Test.YtjidglpldjcmdaaGreatEvY
set_option linter.unusedVariables false
set_option linter.unusedSimpArgs false
set_option maxRecDepth 20000
namespace Go.Ev
open Go

theorem add_addr (b o n : Nat) : (⟨b, o, none⟩ : Addr).add n = ⟨b, o + n, none⟩ := by unfold Addr.add; split <;> simp_all

theorem high {a : Act} {hi mx : Option Operand} {hi' mx' : Option O} (hh : cOo hi = some hi') (hm : cOo mx = some mx') (hmh : (mx'.isSome && hi'.isNone) = false)
    (h1 : hi.map a.eval = none) (h2 : ∃ v, mx.map a.eval = some v) : False := by
  cases hi with
  | some x => simp at h1
  | none =>
    simp only [cOo, Option.some.injEq] at hh
    subst hh
    cases mx with
    | none => simp at h2
    | some y =>
      unfold cOo at hm
      simp only at hm
      split at hm
      · simp only [Option.some.injEq] at hm; subst hm; simp at hmh
      · simp at hm

section
variable {P : Program} {ty : TypeId → Option TyI} {ibs : FuncId → Bool} {ρ : Rho} {e : E} {a : Act} (he : ER ρ e a) (w : World)
include he
theorem w_sll (hty : TyOk P ty) {t el : TypeId} {j : TyI} (hu : P.underlying t = some (.slice el)) (hj : ty el = some j) {x : Operand} {lo hi mx : Option Operand} {x' : O} {lo' hi' mx' : Option O} (hx : cO x = some x') (hl : cOo lo = some lo') (hh : cOo hi = some hi') (hm : cOo mx = some mx') (hmh : (mx'.isSome && hi'.isNone) = false) {v : V}
    (hv : wv e (.sll j.sz x' lo' hi' mx') = some v) :
    ∃ cv, (Instr.sliceAt t (a.eval x) (lo.map a.eval) (hi.map a.eval) (mx.map a.eval)).run P w = .ok cv w ∧ VR ρ v cv := by
  obtain ⟨inf, z, hi1, hi2, _, _, _⟩ := hty.info hj
  have hsz : ∀ w, (sizeOf el).run P w = .ok j.sz w := fun w => by rw [run_size hi1, hi2]
  simp only [wv] at hv
  have red : ∀ (q : Value), (Instr.sliceAt t q (lo.map a.eval) (hi.map a.eval) (mx.map a.eval)).run P w = (Instr.slice t q (lo.map a.eval) (hi.map a.eval) (mx.map a.eval)).run P w := fun q => by
    unfold Instr.sliceAt
    simp only [Sem.run_bind, run_under hu, Result.andThen_ok]
  rw [red]
  split at hv
  · rename_i h1
    rw [show a.eval x = .slice none 0 0 from he.at hx h1]
    split at hv
    · rename_i h2 h3 h4
      simp only [Option.some.injEq] at hv; subst hv
      refine ⟨.slice none 0 0, ?_, rfl⟩
      unfold Instr.slice
      simp only [Sem.run_bind, run_under hu, Result.andThen_ok]
      have hb : (Instr.sliceBounds true 0 0 (lo.map a.eval) (hi.map a.eval) (mx.map a.eval)).run P w = .ok (0, 0, 0) w := by
        rcases optEval he hm h4 with ⟨hm', _⟩ | ⟨k, hm'⟩
        · rw [hm']; exact sliceBounds_run P w true 0 0 0 0 (optEval he hl h2) (optEval he hh h3) (Nat.le_refl _) (Nat.le_refl _) (Nat.le_refl _)
        · rw [hm']
          rcases optEval he hh h3 with ⟨hh', _⟩ | ⟨k', hh'⟩
          · exact (high hh hm hmh hh' ⟨_, hm'⟩).elim
          · exact sliceBounds_run3 P w 0 0 0 0 0 (optEval he hl h2) ⟨k', hh'⟩ (Nat.le_refl _) (Nat.le_refl _) (Nat.le_refl _)
      simp only [Sem.run_bind, hb, Result.andThen_ok, hsz]
      rfl
    · simp at hv
  · rename_i bl o n sz' full h1
    obtain ⟨cb, sh, zz, ad, cap, r1, r2, r3, r4, r5, r6, r7⟩ := he.at hx h1
    replace hv := cond_some hv
    obtain ⟨h2, hv⟩ := hv
    simp only [nbeq, beq_iff_eq] at h2
    subst h2
    rw [r2]
    have fin : ∀ (p q m : Nat) (fl : Bool), p ≤ q → q ≤ m → m ≤ cap → (fl = true → m - p = q - p) → (Instr.sliceBounds true n cap (lo.map a.eval) (hi.map a.eval) (mx.map a.eval)).run P w = .ok (p, q, m) w →
        ∃ cv, (Instr.slice t (.slice (some ad) n cap) (lo.map a.eval) (hi.map a.eval) (mx.map a.eval)).run P w = .ok cv w ∧ VR ρ (.c (.l bl (Nat.add o (Nat.mul p j.sz)) (Nat.sub q p) j.sz fl)) cv := by
      intro p q m fl g1 g2 g3 g4 hb
      refine ⟨.slice (if m = p then some ad else some (ad.add (p * j.sz))) (q - p) (m - p), ?_, ?_⟩
      · unfold Instr.slice
        simp only [Sem.run_bind, run_under hu, Result.andThen_ok, hb, hsz]
        rfl
      · refine ⟨cb, sh, zz, if m = p then ad else ad.add (p * j.sz), m - p, r1, ?_, by show q - p ≤ m - p; omega, g4, ?_, ?_, r7⟩
        · split <;> rfl
        · intro hpos
          rw [if_neg (by omega), r5 (by omega), add_addr]
          show (⟨cb, sh + o + p * j.sz, none⟩ : Addr) = ⟨cb, sh + (o + p * j.sz), none⟩
          rw [Nat.add_assoc]
        · show sh + (o + p * j.sz) + (m - p) * j.sz ≤ zz
          have : p * j.sz + (m - p) * j.sz = m * j.sz := by rw [← Nat.add_mul]; congr 1; omega
          have h3 : m * j.sz ≤ cap * j.sz := Nat.mul_le_mul_right _ g3
          omega
    cases mx' with
    | none =>
      simp only at hv
      split at hv
      · rename_i p q h3 h4
        obtain ⟨h5, hv⟩ := cond_some hv
        obtain ⟨h5, h6⟩ := ble2 h5
        simp only [Option.some.injEq] at hv; subst hv
        have hm0 : mx.map a.eval = none := by
          cases mx with
          | none => rfl
          | some y => unfold cOo at hm; simp only at hm; split at hm <;> simp at hm
        refine fin p q cap _ h5 (by omega) (Nat.le_refl _) ?_ ?_
        · intro hf
          simp only [Bool.and_eq_true, nbeq, beq_iff_eq] at hf
          rw [r4 hf.1, hf.2]
        · rw [hm0]
          exact sliceBounds_run P w true n cap p q (optEval he hl h3) (optEval he hh h4) h5 h6 r3
      · simp at hv
    | some m' =>
      simp only at hv
      split at hv
      · rename_i p q m h3 h4 h5
        obtain ⟨h6, hv⟩ := cond_some hv
        obtain ⟨h6, h7, h8⟩ := ble3 h6
        simp only [Option.some.injEq] at hv; subst hv
        rcases optEval (d := 0) he hm (n := m) h5 with ⟨hm', _⟩ | ⟨k, hm'⟩
        · exfalso
          cases mx with
          | none => simp [cOo] at hm
          | some y => simp at hm'
        · refine fin p q m _ h6 h7 (by omega) ?_ ?_
          · intro hf
            simp only [nbeq, beq_iff_eq] at hf
            omega
          · rw [hm']
            rcases optEval he hh h4 with ⟨hh', _⟩ | ⟨k', hh'⟩
            · exact (high hh hm hmh hh' ⟨_, hm'⟩).elim
            · exact sliceBounds_run3 P w n cap p q m (optEval he hl h3) ⟨k', hh'⟩ h6 h7 (by omega)
      · simp at hv
  · simp at hv

theorem w_fad (hty : TyOk P ty) {t : TypeId} {fs : Array Field} (hu : P.underlying t = some (.struct fs)) {k : Nat} {f : Field} (hf : fs[k]? = some f) {j : TyI} (hj : ty f.type = some j) (hz : j.sz ≠ 0) {x : Operand} {x' : O} (hx : cO x = some x') {v : V}
    (hv : wv e (.fad f.offset x') = some v) : ∃ cv, (Instr.fieldAt t (a.eval x) k).run P w = .ok cv w ∧ VR ρ v cv := by
  obtain ⟨inf, z, hi1, hi2, _, _, _⟩ := hty.info hj
  simp only [wv] at hv
  split at hv
  · rename_i p q h1
    simp only [Option.some.injEq] at hv; subst hv
    obtain ⟨cb, sh, zz, r1, r2⟩ := he.at hx h1
    rw [r2]
    refine ⟨.pointer (some (Addr.add ⟨cb, sh + q, none⟩ f.offset)), ?_, cb, sh, zz, r1, ?_⟩
    · unfold Instr.fieldAt
      simp only [Sem.run_bind, run_under hu, Result.andThen_ok, hf]
      simp only [Instr.sureAddr, fieldPlace, Sem.run_bind, Sem.run_pure, Result.andThen_ok, run_size hi1]
      rw [if_neg (by rw [hi2]; exact hz)]
      rfl
    · rw [add_addr, Nat.add_assoc]; rfl
  · simp at hv
theorem w_fld (hty : TyOk P ty) {t : TypeId} {fs : Array Field} (hu : P.underlying t = some (.struct fs)) {k : Nat} {f : Field} (hf : fs[k]? = some f) {j : TyI} (hj : ty f.type = some j) {x : Operand} {x' : O} (hx : cO x = some x') {v : V}
    (hv : wv e (.fld f.offset (if isAggD j.u then some j.sz else none) x') = some v) : ∃ cv, (Instr.field t (a.eval x) k).run P w = .ok cv w ∧ VR ρ v cv := by
  obtain ⟨inf, z, hi1, hi2, _, _, _⟩ := hty.info hj
  have hu2 := hty.under hj
  simp only [wv] at hv
  have hxv := he.ov hx
  split at hv
  · rename_i l h1
    rw [h1] at hxv
    obtain ⟨arr, r1, r2⟩ := hxv
    rw [r1]
    have red : ∀ cv, (part f.type arr f.offset).run P w = .ok cv w → (Instr.field t (.agg arr) k).run P w = .ok cv w := fun cv hh => by
      unfold Instr.field
      simp only [Sem.run_bind, run_under hu, Result.andThen_ok, hf, asAgg, Sem.run_pure, hh]
    cases hag : isAggD j.u with
    | true =>
      rw [hag] at hv
      simp only [if_true] at hv
      obtain ⟨h2, hv⟩ := cond_some hv
      have h2 := Nat.le_of_ble_eq_true h2
      simp only [llen_eq, Nat.add_eq] at h2
      simp only [Option.some.injEq] at hv; subst hv
      refine ⟨.agg (arr.extract f.offset (f.offset + j.sz)), red _ ?_, _, rfl, ?_⟩
      · unfold part
        simp only [Sem.run_bind, run_isAgg hu2, Result.andThen_ok, hag, if_true, run_size hi1, hi2]
        rfl
      · rw [ltake_eq, ldrop_eq, Array.toList_extract, List.extract_eq_take_drop]
        rw [Nat.add_sub_cancel_left]
        exact (r2.drop _).take _
    | false =>
      rw [hag] at hv
      simp only [Bool.false_eq_true, if_false] at hv
      split at hv
      · rename_i s h2
        simp only [Option.some.injEq] at hv; subst hv
        rw [lget_eq] at h2
        obtain ⟨b, h3, h4⟩ := r2.get h2
        refine ⟨b, red _ ?_, h4⟩
        have h5 : arr[f.offset]? = some b := by simpa using h3
        unfold part
        simp only [Sem.run_bind, run_isAgg hu2, Result.andThen_ok, hag, Bool.false_eq_true, if_false, h5]
        rfl
      · simp at hv
  · simp at hv
theorem w_iad (hty : TyOk P ty) {t el : TypeId} {j : TyI} (hu : P.underlying t = some (.slice el)) (hj : ty el = some j) {x ix : Operand} {x' ix' : O} (hx : cO x = some x') (hix : cO ix = some ix') {v : V}
    (hv : wv e (.iad j.sz x' ix') = some v) : ∃ cv, (Instr.indexAt t (a.eval x) (a.eval ix)).run P w = .ok cv w ∧ VR ρ v cv := by
  obtain ⟨inf, z, hi1, hi2, _, _, _⟩ := hty.info hj
  simp only [wv] at hv
  split at hv
  · rename_i bl o n sz' full h1
    obtain ⟨cb, sh, zz, ad, cap, r1, r2, r3, r4, r5, r6, r7⟩ := he.at hx h1
    split at hv
    · rename_i i h2
      replace hv := cond_some hv
      obtain ⟨h3, hv⟩ := hv
      obtain ⟨k, h4⟩ := onj_sound he hix h2
      obtain ⟨h5, h6⟩ := (Bool.and_eq_true _ _).mp h3
      rw [nbeq, beq_iff_eq] at h5
      subst h5
      have h6 := Nat.le_of_ble_eq_true h6
      simp only [Option.some.injEq] at hv; subst hv
      rw [r2, h4]
      have hlt : i < n := h6
      refine ⟨.pointer (some (ad.add (i * j.sz))), ?_, cb, sh, zz, r1, ?_⟩
      · unfold Instr.indexAt
        simp only [asIntOf, Sem.run_bind, Sem.run_pure, Result.andThen_ok, run_under hu]
        have hc : (0 ≤ (i : Int) ∧ (i : Int) < (n : Int)) := by omega
        simp only [hc, and_self, if_true, Sem.run_bind, run_size hi1, Result.andThen_ok, hi2, Int.toNat_natCast]
        rfl
      · rw [r5 (by omega), add_addr, Nat.add_assoc]; rfl
    · simp at hv
  · simp at hv
theorem w_ixs {t : TypeId} (hu : P.underlying t = some .string) {x ix : Operand} {x' ix' : O} (hx : cO x = some x') (hix : cO ix = some ix') {v : V}
    (hv : wv e (.ixs x' ix') = some v) : ∃ cv, (Instr.index t (a.eval x) (a.eval ix)).run P w = .ok cv w ∧ VR ρ v cv := by
  simp only [wv] at hv
  split at hv
  · rename_i l h1
    obtain ⟨bs, r1, rfl⟩ := he.at hx h1
    split at hv
    · rename_i i h2
      obtain ⟨k, h4⟩ := onj_sound he hix h2
      split at hv
      · rename_i b h3
        simp only [Option.some.injEq] at hv; subst hv
        rw [lget_eq, List.getElem?_map] at h3
        obtain ⟨c, h5, h6⟩ := Option.map_eq_some_iff.1 h3
        rw [r1, h4]
        subst h6
        refine ⟨.int .u8 c.toNat, ?_, rfl⟩
        have h7 : bs[i]? = some c := by
          obtain ⟨h8, h9⟩ := List.getElem?_eq_some_iff.1 h5
          have h10 : i < bs.size := by simpa using h8
          rw [getElem?_pos bs i h10]
          congr 1
        unfold Instr.index
        simp only [asIntOf, Sem.run_bind, Sem.run_pure, Result.andThen_ok, run_under hu]
        have hc : (0 : Int) ≤ (i : Int) := by omega
        simp only [hc, if_true, Int.toNat_natCast, h7]
        rfl
      · simp at hv
    · simp at hv
  · simp at hv
end
end Go.Ev
