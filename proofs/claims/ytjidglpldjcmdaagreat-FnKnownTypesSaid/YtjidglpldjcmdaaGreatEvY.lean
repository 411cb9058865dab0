/-
Every operation that touches no memory: what the evaluator yields is what the model yields.
-/
import Derived.Test.YtjidglpldjcmdaaGreatEvX
set_option linter.unusedVariables false
set_option linter.unusedSimpArgs false
set_option maxRecDepth 20000
namespace Go.Ev
open Go

theorem encode_small (n : Nat) (h : n ≤ 127) : (Utf8.encode (n : Int)).data.toList.map UInt8.toNat = [n] := by
  have : ∀ m : Fin 128, (Utf8.encode ((m : Nat) : Int)).data.toList.map UInt8.toNat = [(m : Nat)] := by decide +kernel
  have h2 := this ⟨n, by omega⟩
  simpa only using h2
theorem extract_bytes (bs : ByteArray) (l h : Nat) (h1 : l ≤ h) (h2 : h ≤ bs.size) : (bs.extract l h).data.toList.map UInt8.toNat = ((bs.data.toList.map UInt8.toNat).drop l).take (h - l) := by
  simp [ByteArray.data_extract, Array.toList_extract, List.extract, List.map_take, List.map_drop]

section
variable {P : Program} {ty : TypeId → Option TyI} {ibs : FuncId → Bool} {ρ : Rho} {e : E} {a : Act} (he : ER ρ e a) (w : World)
include he
theorem w_binOp (hty : TyOk P ty) {op : BinOp} {t : TypeId} {x y : Operand} {x' y' : O} (hx : cO x = some x') (hy : cO y = some y') {q : W} (h : cBin ty op t x' y' = some q) {v : V} (hv : wv e q = some v) :
    ∃ cv, (do eqGuard op t x y (a.eval x) (a.eval y); binOp op t (a.eval x) (a.eval y)).run P w = .ok cv w ∧ VR ρ v cv := by
  have key : ∀ (hop : op = .eql ∨ op = .neq), (match ty t with
    | some i => match i.u with
      | .int _ => some (W.bin op x' y')
      | .string => some (.bin op x' y')
      | .bool => some (.eqb (isNe op) x' y')
      | .slice _ => some (.eql (isNe op) x' y')
      | .pointer _ => some (.eqp (isNe op) x' y')
      | .func _ _ _ => some (.eqf (isNe op) x' y')
      | _ => none
    | none => none) = some q → ∃ cv, (do eqGuard op t x y (a.eval x) (a.eval y); binOp op t (a.eval x) (a.eval y)).run P w = .ok cv w ∧ VR ρ v cv := by
    intro hop h
    split at h
    · rename_i i hi
      have hu := hty.under hi
      split at h <;> simp only [Option.some.injEq, reduceCtorEq] at h <;> subst h
      · exact w_bin he w hx hy hv t
      · exact w_bin he w hx hy hv t
      · rename_i hd; exact w_eqb he w hop hx hy hv (by rw [hu, hd])
      · rename_i hd; exact w_eql he w hop hx hy hv (by rw [hu, hd])
      · rename_i hd; exact w_eqp he w hop hx hy hv (by rw [hu, hd])
      · rename_i hd; exact w_eqf he w hop hx hy hv (by rw [hu, hd])
    · simp at h
  cases op
  case eql => exact key (.inl rfl) h
  case neq => exact key (.inr rfl) h
  all_goals
    simp only [cBin, Option.some.injEq] at h
    subst h
    exact w_bin he w hx hy hv t

theorem w_un {op : UnOp} {x : Operand} {x' : O} (hx : cO x = some x') {v : V} (hv : wv e (.un op x') = some v) : ∃ cv, (Op.unary op (a.eval x)).run P w = .ok cv w ∧ VR ρ v cv := by
  simp only [wv] at hv
  split at hv
  · rename_i p h1
    rw [show a.eval x = .bool p from he.at hx h1]
    cases op <;> simp only [reduceCtorEq] at hv
    exact ⟨_, rfl, bb_vr hv⟩
  · rename_i p h1
    rw [show a.eval x = .int .i64 p from he.at hx h1]
    obtain ⟨cv, h3, h4⟩ := semS_sound ρ hv
    exact ⟨cv, by rw [h3]; rfl, h4⟩
  · rename_i k p h1
    rw [show a.eval x = .int k p from he.at hx h1]
    obtain ⟨cv, h3, h4⟩ := semS_sound ρ hv
    exact ⟨cv, by rw [h3]; rfl, h4⟩
  · simp at hv
theorem w_cv {t s : TypeId} {d : TypeDesc} {k : IntKind} (hs : P.underlying s = some d) (ht : P.underlying t = some (.int k)) {x : Operand} {x' : O} (hx : cO x = some x') {v : V} (hv : wv e (.cv k x') = some v) :
    ∃ cv, (convert s t (a.eval x)).run P w = .ok cv w ∧ VR ρ v cv := by
  simp only [wv] at hv
  split at hv <;> simp only [Option.some.injEq, reduceCtorEq] at hv
  · rename_i p h1
    rw [show a.eval x = .int .i64 p from he.at hx h1]
    subst hv
    exact ⟨_, by unfold convert; simp only [Sem.run_bind, run_under hs, run_under ht, Result.andThen_ok]; rfl, mkI_sr ρ _ _⟩
  · rename_i k' p h1
    rw [show a.eval x = .int k' p from he.at hx h1]
    subst hv
    exact ⟨_, by unfold convert; simp only [Sem.run_bind, run_under hs, run_under ht, Result.andThen_ok]; rfl, mkI_sr ρ _ _⟩
theorem w_cvs {t s : TypeId} {k : IntKind} (hs : P.underlying s = some (.int k)) (ht : P.underlying t = some .string) {x : Operand} {x' : O} (hx : cO x = some x') {v : V} (hv : wv e (.cvs x') = some v) :
    ∃ cv, (convert s t (a.eval x)).run P w = .ok cv w ∧ VR ρ v cv := by
  have key : ∀ (k' : IntKind) (n : Nat), (bif Nat.ble n 127 then some (V.c (.s [n])) else (none : Option V)) = some v → ∃ cv, (convert s t (.int k' (n : Int))).run P w = .ok cv w ∧ VR ρ v cv := by
    intro k' n h
    obtain ⟨h1, h2⟩ := cond_some h
    simp only [Option.some.injEq] at h2
    subst h2
    exact ⟨_, by unfold convert; simp only [Sem.run_bind, run_under hs, run_under ht, Result.andThen_ok]; rfl, _, rfl, encode_small n (Nat.le_of_ble_eq_true h1)⟩
  simp only [wv] at hv
  split at hv
  · rename_i p h1; rw [show a.eval x = .int .i64 (Int.ofNat p) from he.at hx h1]; exact key _ _ hv
  · rename_i k' p h1; rw [show a.eval x = .int k' (Int.ofNat p) from he.at hx h1]; exact key _ _ hv
  · simp at hv
theorem optEval {x : Option Operand} {y : Option O} (h : cOo x = some y) {d n : Nat} (hn : onD e d y = some n) :
    (x.map a.eval = none ∧ n = d) ∨ ∃ k, x.map a.eval = some (.int k n) := by
  rcases onD_sound he h hn with ⟨rfl, _, rfl⟩ | ⟨x', k, rfl, h2⟩
  · exact .inl ⟨rfl, rfl⟩
  · exact .inr ⟨k, by simp [h2]⟩
theorem w_sls {t : TypeId} (hu : P.underlying t = some .string) {x : Operand} {lo hi : Option Operand} {x' : O} {lo' hi' : Option O} (hx : cO x = some x') (hl : cOo lo = some lo') (hh : cOo hi = some hi') {v : V} (hv : wv e (.sls x' lo' hi') = some v) :
    ∃ cv, (Instr.sliceAt t (a.eval x) (lo.map a.eval) (hi.map a.eval) none).run P w = .ok cv w ∧ VR ρ v cv := by
  simp only [wv] at hv
  split at hv
  · rename_i l h1
    obtain ⟨bs, e1, rfl⟩ := he.at hx h1
    split at hv
    · rename_i p q h2 h3
      obtain ⟨h4, hv⟩ := cond_some hv
      replace h4 := ble2 h4
      rw [llen_eq, List.length_map] at h4
      have hsz : bs.data.toList.length = bs.size := Array.length_toList
      rw [llen_eq, List.length_map, hsz] at h3
      rw [hsz] at h4
      rw [e1]
      simp only [Option.some.injEq] at hv
      subst hv
      refine ⟨.string (bs.extract p q), ?_, _, rfl, ?_⟩
      · unfold Instr.sliceAt
        simp only [Sem.run_bind, run_under hu, Result.andThen_ok]
        unfold Instr.slice
        simp only [Sem.run_bind, run_under hu, Result.andThen_ok]
        simp only [Option.isSome_none, Bool.false_eq_true, if_false, Sem.run_bind, Sem.run_pure, Result.andThen_ok]
        rw [sliceBounds_run P w false bs.size bs.size p q (optEval he hl h2) (optEval he hh h3) h4.1 h4.2 (Nat.le_refl _)]
        rfl
      · rw [ltake_eq, ldrop_eq]
        exact extract_bytes bs p q h4.1 h4.2
    · simp at hv
  · simp at hv
end
end Go.Ev
