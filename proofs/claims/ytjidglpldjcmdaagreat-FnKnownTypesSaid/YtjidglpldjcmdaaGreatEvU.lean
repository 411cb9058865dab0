/-
An operation that touches no memory yields for the model what it yields for the evaluator.
-/
import Derived.Test.YtjidglpldjcmdaaGreatEvV
set_option linter.unusedVariables false
set_option linter.unusedSimpArgs false
set_option maxRecDepth 20000
namespace Go.Ev
open Go

theorem cOs_two {args : List Operand} {x y : O} (h : cOs args = some [x, y]) : ∃ x' y', args = [x', y'] ∧ cO x' = some x ∧ cO y' = some y := by
  match args, h with
  | [x', y'], h =>
    unfold cOs at h
    split at h
    · rename_i y1 m1 h1 h2
      simp only [Option.some.injEq, List.cons.injEq] at h
      obtain ⟨rfl, rfl⟩ := h
      unfold cOs at h2
      split at h2
      · rename_i y2 m2 h3 h4
        simp only [Option.some.injEq, List.cons.injEq] at h2
        obtain ⟨rfl, _⟩ := h2
        exact ⟨x', y', rfl, h1, h3⟩
      · simp at h2
    · simp at h
  | [], h => simp [cOs] at h
  | [x'], h => unfold cOs at h; split at h <;> simp_all [cOs]
  | x' :: y' :: z' :: r, h =>
    unfold cOs at h
    split at h
    · rename_i y1 m1 h1 h2
      simp only [Option.some.injEq, List.cons.injEq] at h
      obtain ⟨rfl, rfl⟩ := h
      unfold cOs at h2
      split at h2
      · rename_i y2 m2 h3 h4
        simp only [Option.some.injEq, List.cons.injEq] at h2
        obtain ⟨rfl, rfl⟩ := h2
        unfold cOs at h4
        split at h4 <;> simp at h4
      · simp at h2
    · simp at h

/-- A call, taken apart. -/
theorem exec_call {P : Program} {ρ : Operand → Value} {c : Call} {type : TypeId} {w : World} {f : FuncId} (hc : c.callee = .value (.func f)) (hf : ρ (.func f) = .func (.func f) #[] #[]) :
    (do let d ← resolve ρ c type; invoke d.target d.args : Sem Next).run P w = (callFunc f (c.args.map ρ)).run P w := by
  unfold resolve
  simp only [hc, hf, Deferred.ofValue, Sem.run_bind, Sem.run_pure, Result.andThen_ok, invoke]
  simp
theorem exec_builtin {P : Program} {ρ : Operand → Value} {c : Call} {type : TypeId} {w : World} {b : Builtin} (hc : c.callee = .builtin b) :
    (do let d ← resolve ρ c type; invoke d.target d.args : Sem Next).run P w = (builtin b c.argTypes type (c.args.map fun | .const _ => true | _ => false) (c.args.map ρ)).run P w := by
  unfold resolve
  simp only [hc, Sem.run_bind, Sem.run_pure, Result.andThen_ok, invoke]
  rfl

theorem mapM_sizes {P : Program} {ty : TypeId → Option TyI} (hty : TyOk P ty) (w : World) : ∀ (fs : List Field), (fs.all fun f => (ty f.type).isSome) = true →
    (fs.mapM fun f => (do pure (f.offset, ← sizeOf f.type) : Sem (Nat × Nat))).run P w = .ok (fs.map fun f => (f.offset, ((ty f.type).map (·.sz)).getD 0)) w
  | [], _ => by simp
  | f :: fs, h => by
    simp only [List.all_cons, Bool.and_eq_true] at h
    obtain ⟨j, hj⟩ := Option.isSome_iff_exists.1 h.1
    obtain ⟨inf, z, hi1, hi2, _, _, _⟩ := hty.info hj
    simp only [List.mapM_cons, Sem.run_bind, run_size hi1, Result.andThen_ok, Sem.run_pure, mapM_sizes hty w fs h.2, List.map_cons, hj, Option.map_some, Option.getD_some, hi2]
theorem w_build {P : Program} {ty : TypeId → Option TyI} (hty : TyOk P ty) {ρ : Rho} {e : E} {a : Act} (he : ER ρ e a) {t : TypeId} {i : TyI} (hi : ty t = some i) (hok : placesOk ty i.u = true)
    {ps : Array (Nat × Operand)} {qs : List (Nat × Nat × O)} (hq : cParts (place ty i.u) ps.toList = some qs) {l : List S} (hl : putAll i.z e qs = some l) (w : World) :
    ∃ arr : Array Value, (Instr.build t (ps.map fun (i, x) => (i, a.eval x))).run P w = .ok (.agg arr) w ∧ LR (SR ρ) l arr.toList := by
  have hu := hty.under hi
  obtain ⟨inf, z, hi1, hi2, hi3, hi4, hi5⟩ := hty.info hi
  obtain ⟨out, h1, h2⟩ := putAll_sound he hq hl (valL_lr ρ hi5)
  have hps : (ps.map fun (i, x) => (i, a.eval x)).toList = ps.toList.map fun p => (p.1, a.eval p.2) := by simp
  refine ⟨out, ?_, h2⟩
  unfold Instr.build
  simp only [Sem.run_bind, run_zero hi1 hi4, Result.andThen_ok, run_under hu]
  cases hd : i.u <;> rw [hd] at hok h1 <;> simp only [placesOk, Bool.false_eq_true] at hok
  case struct fs =>
    have hm := mapM_sizes hty w fs.toList hok
    have hm' : (fs.mapM fun f => (do pure (f.offset, ← sizeOf f.type) : Sem (Nat × Nat))).run P w = .ok (fs.toList.map fun f => (f.offset, ((ty f.type).map (·.sz)).getD 0)).toArray w := by
      rw [Array.mapM_eq_mapM_toList, Sem.run_map, hm]; rfl
    simp only [Sem.run_bind, hm', Result.andThen_ok]
    have hpl : (fun x => ((fs.toList.map fun f => (f.offset, ((ty f.type).map (·.sz)).getD 0)).toArray)[x]?) = place ty (.struct fs) := by
      funext k
      simp only [place, List.getElem?_toArray, List.getElem?_map, Array.getElem?_toList]
      cases hk : fs[k]? with
      | none => rfl
      | some f =>
        have : f ∈ fs.toList := by
          obtain ⟨hk1, hk2⟩ := Array.getElem?_eq_some_iff.1 hk
          rw [← hk2]; simp
        obtain ⟨j, hj⟩ := Option.isSome_iff_exists.1 (List.all_eq_true.1 hok f this)
        simp [hj]
    rw [hpl, hps, h1]
    rfl
  case array n el =>
    obtain ⟨j, hj⟩ := Option.isSome_iff_exists.1 hok
    obtain ⟨inf', z', hj1, hj2, _, _, _⟩ := hty.info hj
    simp only [Sem.run_bind, run_size hj1, Result.andThen_ok, hj2]
    have hpl : (fun k => some (k * j.sz, j.sz)) = place ty (.array n el) := by
      funext k; simp [place, hj]
    rw [hpl, hps, h1]
    rfl
theorem wv_sound {P : Program} {ty : TypeId → Option TyI} {ibs : FuncId → Bool} (hty : TyOk P ty) (hib : IbsOk P ibs) {op : Op} {x : W} (h : cMO ty ibs op = some (.w x)) {ρ : Rho} {e : E} {a : Act} (he : ER ρ e a)
    {v : V} (hv : wv e x = some v) (dst : Option Tmp) (type : TypeId) (pos : String) (after : Array Edge) (guard : Option (Nat × Bool)) (w : World) :
    ∃ cv, (execOp a.eval ⟨dst, op, type, pos, after, guard⟩).run P w = .ok (.value cv) w ∧ VR ρ v cv := by
  cases op
  case move y =>
    simp only [cMO, Option.map_eq_some_iff] at h
    obtain ⟨y', hy, h⟩ := h
    simp only [MO.w.injEq] at h; subst h
    simp only [wv, Option.some.injEq] at hv; subst hv
    exact ⟨_, rfl, he.ov hy⟩
  case assign y =>
    simp only [cMO, Option.map_eq_some_iff] at h
    obtain ⟨y', hy, h⟩ := h
    simp only [MO.w.injEq] at h; subst h
    simp only [wv, Option.some.injEq] at hv; subst hv
    exact ⟨_, rfl, he.ov hy⟩
  case pick c p q =>
    simp only [cMO] at h
    split at h <;> simp only [Option.some.injEq, reduceCtorEq, MO.w.injEq] at h
    rename_i c' p' q' h1 h2 h3
    subst h
    simp only [wv] at hv
    split at hv
    · rename_i b h4
      simp only [Option.some.injEq] at hv; subst hv
      have hc : a.eval c = .bool b := he.at h1 h4
      refine ⟨if b then a.eval p else a.eval q, ?_, ?_⟩
      · simp [execOp, hc, asBool]
      · cases b
        · exact he.ov h3
        · exact he.ov h2
    · simp at hv
  case build t ps =>
    simp only [cMO] at h
    split at h
    · rename_i i hi
      split at h
      · rename_i hok
        simp only [Option.map_eq_some_iff] at h
        obtain ⟨l, hl, h⟩ := h
        simp only [MO.w.injEq] at h; subst h
        simp only [wv] at hv
        split at hv
        · rename_i m hm
          simp only [Option.some.injEq] at hv; subst hv
          obtain ⟨arr, h1, h2⟩ := w_build hty he hi hok hl hm w
          exact ⟨_, execV h1, arr, rfl, h2⟩
        · simp at hv
      · simp at h
    · simp at h
  case nilCheck y =>
    simp only [cMO, Option.map_eq_some_iff] at h
    obtain ⟨y', hy, h⟩ := h
    simp only [MO.w.injEq] at h; subst h
    simp only [wv] at hv
    split at hv <;> simp only [Option.some.injEq, reduceCtorEq] at hv <;> subst hv
    · rename_i p q h1
      have h2 : SR ρ (.p p q) (a.eval y) := he.at hy h1
      refine ⟨a.eval y, ?_, h2⟩
      obtain ⟨cb, sh, zz, r1, r2⟩ := h2
      simp [execOp, r2]
    · rename_i g cs h1
      have h2 : SR ρ (.f g cs) (a.eval y) := he.at hy h1
      refine ⟨a.eval y, ?_, h2⟩
      obtain ⟨arr, r1, r2⟩ := h2
      simp [execOp, r1]
  case binOp op t y z t' =>
    simp only [cMO] at h
    split at h
    · rename_i y' z' h1 h2
      simp only [Option.map_eq_some_iff] at h
      obtain ⟨q, hq, h⟩ := h
      simp only [MO.w.injEq] at h; subst h
      obtain ⟨cv, h3, h4⟩ := w_binOp he w hty h1 h2 hq hv
      exact ⟨cv, execV h3, h4⟩
    · simp at h
  case unOp op t y =>
    simp only [cMO, Option.map_eq_some_iff] at h
    obtain ⟨y', hy, h⟩ := h
    simp only [MO.w.injEq] at h; subst h
    obtain ⟨cv, h3, h4⟩ := w_un (P := P) he w hy hv
    exact ⟨cv, execV h3, h4⟩
  case convert s d y =>
    simp only [cMO] at h
    split at h
    · rename_i i j y' h1 h2 h3
      split at h
      · rename_i k hi hj
        simp only [Option.some.injEq, MO.w.injEq] at h; subst h
        obtain ⟨cv, h4, h5⟩ := w_cv he w (hty.under h1) (by rw [hty.under h2]; exact congrArg _ hj) h3 hv
        exact ⟨cv, execV h4, h5⟩
      · rename_i hi hj
        simp only [Option.some.injEq, MO.w.injEq] at h; subst h
        obtain ⟨cv, h4, h5⟩ := w_cvs he w (by rw [hty.under h1]; exact congrArg _ hi) (by rw [hty.under h2]; exact congrArg _ hj) h3 hv
        exact ⟨cv, execV h4, h5⟩
      · split at h
        · split at h <;> simp at h
        · simp at h
      · simp at h
    · simp at h
  case makeFunc fn first caps =>
    cases fn <;> simp only [cMO, reduceCtorEq] at h
    rename_i g
    split at h
    · rename_i hf
      simp only [Option.map_eq_some_iff] at h
      obtain ⟨l, hl, h⟩ := h
      simp only [MO.w.injEq] at h; subst h
      simp only [wv] at hv
      split at hv
      · rename_i m hm
        simp only [Option.some.injEq] at hv; subst hv
        have hf' : first = #[] := by simpa using hf
        subst hf'
        refine ⟨.func (.func g) #[] (caps.map a.eval), ?_, _, rfl, ?_⟩
        · simp [execOp, Instr.makeFunc]
        · rw [Array.toList_map]
          exact ptrs_sound he hl hm
      · simp at hv
    · simp at h
  case slice t y lo hi mx =>
    simp only [cMO] at h
    split at h
    · rename_i i y' lo' hi' mx' h1 h2 h3 h4 h5
      split at h
      · rename_i hd
        split at h
        · simp only [Option.some.injEq, MO.w.injEq] at h; subst h
          have hm0 : mx = none := by
            cases mx with
            | none => rfl
            | some q => unfold cOo at h5; simp only at h5; split at h5 <;> simp at h5
          subst hm0
          obtain ⟨cv, h6, h7⟩ := w_sls he w (by rw [hty.under h1]; exact congrArg _ hd) h2 h3 h4 hv
          exact ⟨cv, execV h6, h7⟩
        · simp at h
      · rename_i el hd
        split at h
        · rename_i j hj
          split at h
          · simp at h
          · rename_i hmh
            simp only [Option.some.injEq, MO.w.injEq] at h; subst h
            obtain ⟨cv, h6, h7⟩ := w_sll he w hty (by rw [hty.under h1]; exact congrArg _ hd) hj h2 h3 h4 h5 (Bool.eq_false_iff.2 hmh) hv
            exact ⟨cv, execV h6, h7⟩
        · simp at h
      · simp at h
    · simp at h
  case fieldAddr t y k =>
    simp only [cMO] at h
    split at h
    · rename_i i y' h1 h2
      split at h
      · rename_i fs hd
        split at h
        · rename_i f hf
          split at h
          · rename_i j hj
            split at h
            · simp at h
            · rename_i hz
              simp only [Option.some.injEq, MO.w.injEq] at h; subst h
              obtain ⟨cv, h6, h7⟩ := w_fad he w hty (by rw [hty.under h1]; exact congrArg _ hd) hf hj hz h2 hv
              exact ⟨cv, execV h6, h7⟩
          · simp at h
        · simp at h
      · simp at h
    · simp at h
  case field t y k =>
    simp only [cMO] at h
    split at h
    · rename_i i y' h1 h2
      split at h
      · rename_i fs hd
        split at h
        · rename_i f hf
          split at h
          · rename_i j hj
            simp only [Option.some.injEq, MO.w.injEq] at h; subst h
            obtain ⟨cv, h6, h7⟩ := w_fld he w hty (by rw [hty.under h1]; exact congrArg _ hd) hf hj h2 hv
            exact ⟨cv, execV h6, h7⟩
          · simp at h
        · simp at h
      · simp at h
    · simp at h
  case indexAddr t y ix =>
    simp only [cMO] at h
    split at h <;> simp only [Option.some.injEq, reduceCtorEq, MO.w.injEq] at h
    rename_i j y' ix' h1 h2 h3
    subst h
    obtain ⟨el, h4, h5⟩ := hty.elem h1
    obtain ⟨cv, h6, h7⟩ := w_iad he w hty h4 h5 h2 h3 hv
    exact ⟨cv, execV h6, h7⟩
  case index t y ix =>
    simp only [cMO] at h
    split at h
    · rename_i i y' ix' h1 h2 h3
      split at h <;> simp only [Option.some.injEq, reduceCtorEq, MO.w.injEq] at h
      rename_i hd
      subst h
      obtain ⟨cv, h6, h7⟩ := w_ixs he w (by rw [hty.under h1]; exact congrArg _ hd) h2 h3 hv
      exact ⟨cv, execV h6, h7⟩
    · simp at h
  case extract y i =>
    simp only [cMO, Option.map_eq_some_iff] at h
    obtain ⟨y', hy, h⟩ := h
    simp only [MO.w.injEq] at h; subst h
    simp only [wv] at hv
    split at hv
    · rename_i l h1
      have h2 := he.ov hy
      rw [h1] at h2
      obtain ⟨arr, r1, r2⟩ := h2
      rw [lget_eq] at hv
      obtain ⟨b, h3, h4⟩ := r2.get hv
      have h5 : arr[i]? = some b := by simpa using h3
      refine ⟨b, ?_, VR.of0 h4⟩
      simp [execOp, r1, Instr.extract, h5]
    · simp at hv
  case call c =>
    simp only [cMO] at h
    split at h
    · rename_i l hl
      split at h
      · rename_i b hc
        obtain ⟨cv, h1, h2⟩ := w_builtin (P := P) he w hty hl h hv type (c.args.map fun | .const _ => true | _ => false)
        refine ⟨cv, ?_, h2⟩
        rw [show execOp a.eval ⟨dst, .call c, type, pos, after, guard⟩ = (do let d ← resolve a.eval c type; invoke d.target d.args) from rfl, exec_builtin hc]
        rw [show c.args.map a.eval = (c.args.toList.map a.eval).toArray by rw [← Array.toList_map]]
        exact h1
      · rename_i f hc
        split at h
        · rename_i hf
          split at h
          · rename_i p q
            simp only [Option.some.injEq, MO.w.injEq] at h; subst h
            obtain ⟨x', y', h1, h2, h3⟩ := cOs_two hl
            simp only [wv] at hv
            split at hv
            · rename_i s n h4 h5
              obtain ⟨hn, hv⟩ := cond_some hv
              have hn := Nat.le_of_ble_eq_true hn
              simp only [Option.some.injEq] at hv; subst hv
              obtain ⟨bs, r1, r2⟩ := he.at h2 h4
              have r3 : a.eval y' = .int .u8 (Int.ofNat n) := he.at h3 h5
              refine ⟨.int .i64 (Lib.indexByte bs.data.toList (n : Int).toNat.toUInt8), ?_, ?_⟩
              · rw [show execOp a.eval ⟨dst, .call c, type, pos, after, guard⟩ = (do let d ← resolve a.eval c type; invoke d.target d.args) from rfl, exec_call hc rfl]
                refine hib f hf _ _ w ?_
                rw [show c.args.map a.eval = #[.string bs, .int .u8 (n : Int)] by rw [← Array.toArray_toList (xs := c.args), h1]; simp [r1, r3]]
                exact Lib.run_indexByteString bs _ w
              · show _ = _
                have hb : (n : Int).toNat.toUInt8.toNat = n := by
                  simp only [Int.toNat_natCast, Nat.toUInt8, UInt8.toNat_ofNat']
                  omega
                have h6 := find_spec (n : Int).toNat.toUInt8 bs.data.toList 0
                rw [hb, r2] at h6
                rw [h6]
                split
                · rename_i h7; rw [h7]
                · simp
            · simp at hv
          · simp at h
        · simp at h
      · simp only [Option.map_eq_some_iff, reduceCtorEq, and_false, exists_false] at h
      · simp at h
    · simp at h
  all_goals
    first
      | (simp only [cMO, reduceCtorEq] at h; done)
      | (simp only [cMO, Option.map_eq_some_iff, reduceCtorEq, and_false, exists_false] at h; done)
      | (simp only [cMO] at h; (repeat' split at h) <;> simp at h; done)
end Go.Ev
