/-
Reads and new blocks: what the evaluator yields is what the model yields.
-/
import Derived.Test.YtjidglpldjcmdaaGreatEvM
set_option linter.unusedVariables false
set_option linter.unusedSimpArgs false
set_option maxRecDepth 20000
namespace Go.Ev
open Go

theorem run_loadVar_agg {P : Program} {t : TypeId} {u : TypeDesc} {i : TypeInfo} (hu : P.underlying t = some u) (hi : P.info? t = some i) (hag : isAggD u = true) (a : Addr) {cs : List Value} (hl : cs.length = i.size)
    {w : World} (hc : ∀ j v, cs[j]? = some v → w.cell? (a.add j) = some v) : (loadVar t a).run P w = .ok (.agg cs.toArray) w := by
  have := run_loadCells_list (P := P) w a cs hc
  rw [hl] at this
  unfold loadVar
  simp only [Sem.run_bind, run_isAgg hu, Result.andThen_ok, hag, if_true, run_size hi, this]
  rfl
theorem run_loadVar_cell {P : Program} {t : TypeId} {u : TypeDesc} (hu : P.underlying t = some u) (hag : isAggD u = false) {a : Addr} {w : World} {v : Value} (hc : w.cell? a = some v) :
    (loadVar t a).run P w = .ok v w := by
  unfold loadVar
  simp only [Sem.run_bind, run_isAgg hu, Result.andThen_ok, hag, Bool.false_eq_true, if_false, run_load, hc]

theorem ld_sound {P : Program} {ty : TypeId → Option TyI} (hty : TyOk P ty) {t : TypeId} {i : TyI} (hi : ty t = some i) {ρ : Rho} {s : St} {w : World} (h : Rel ρ s w) {q : S} {cq : Value} (hq : SR ρ q cq) {v : V}
    (hv : ldv s (if isAggD i.u then some i.sz else none) q = some v) : ∃ cv a, cq = .pointer (some a) ∧ (loadVar t a).run P w = .ok cv w ∧ VR ρ v cv := by
  obtain ⟨inf, z, hi1, hi2, _, _, _⟩ := hty.info hi
  have hu := hty.under hi
  unfold ldv at hv
  split at hv
  · rename_i x o
    obtain ⟨cb, sh, zz, r1, r2⟩ := hq
    cases hag : isAggD i.u with
    | true =>
      rw [hag] at hv
      simp only [if_true] at hv
      split at hv
      · rename_i l hl
        simp only [Option.some.injEq] at hv; subst hv
        obtain ⟨cs, h1, h2, h3⟩ := h.cells_there hl r1
        exact ⟨.agg cs.toArray, _, r2, run_loadVar_agg hu hi1 hag _ (by rw [h1, hi2]) h3, _, rfl, by simpa using h2⟩
      · simp at hv
    | false =>
      rw [hag] at hv
      simp only [Bool.false_eq_true, if_false] at hv
      split at hv
      · rename_i b hb
        split at hv
        · rename_i sv hs
          simp only [Option.some.injEq] at hv; subst hv
          rw [lget_eq] at hs
          obtain ⟨cv, h1, h2⟩ := (h.con x cb sh zz b r1 hb).2 o sv hs
          exact ⟨cv, _, r2, run_loadVar_cell hu hag h1, h2⟩
        · simp at hv
      · simp at hv
  · simp at hv

theorem bytesIn_sound {ρ : Rho} : ∀ {l : List S} {cs : List Value} {b : List Nat}, bytesIn l = some b → LR (SR ρ) l cs → cs = (b.map fun (n : Nat) => (n : Int)).map (Value.int .u8)
  | [], [], b, h, _ => by
    have : some [] = some b := h
    simp only [Option.some.injEq] at this; subst this; rfl
  | [], _ :: _, _, _, h => h.elim
  | _ :: _, [], _, _, h => h.elim
  | x :: l, c :: cs, b, h, hl => by
    have h' : consB x (bytesIn l) = some b := h
    unfold consB at h'
    split at h'
    · rename_i n m hm
      obtain ⟨_, h'⟩ := cond_some h'
      simp only [Option.some.injEq] at h'; subst h'
      have h1 : c = .int .u8 (Int.ofNat n) := hl.1
      rw [h1, bytesIn_sound hm hl.2]
      rfl
    · simp at h'
theorem bytesIn_le : ∀ {l : List S} {b : List Nat}, bytesIn l = some b → b.map (fun n => (UInt8.ofNat n).toNat) = b
  | [], b, h => by
    have : some [] = some b := h
    simp only [Option.some.injEq] at this; subst this; rfl
  | x :: l, b, h => by
    have h' : consB x (bytesIn l) = some b := h
    unfold consB at h'
    split at h'
    · rename_i n m hm
      obtain ⟨hn, h'⟩ := cond_some h'
      have hn := Nat.le_of_ble_eq_true hn
      simp only [Option.some.injEq] at h'; subst h'
      rw [List.map_cons, bytesIn_le hm]
      congr 1
      simp only [UInt8.toNat_ofNat']
      omega
    · simp at h'
theorem foldl_push : ∀ (l : List Nat) (b : ByteArray), ((l.map fun (n : Nat) => (n : Int)).foldl (fun r n => r.push (UInt8.ofNat n.toNat)) b).data.toList = b.data.toList ++ l.map UInt8.ofNat
  | [], b => by simp
  | x :: l, b => by
    simp only [List.map_cons, List.foldl_cons]
    rw [foldl_push l]
    simp [ByteArray.push]

theorem rv_sound {P : Program} {ty : TypeId → Option TyI} {ibs : FuncId → Bool} (hty : TyOk P ty) {op : Op} {x : R} (h : cMO ty ibs op = some (.r x)) {ρ : Rho} {e : E} {a : Act} (he : ER ρ e a) {s : St} {w : World} (hr : Rel ρ s w)
    {v : V} (hv : rv e s x = some v) (dst : Option Tmp) (type : TypeId) (pos : String) (after : Array Edge) (guard : Option (Nat × Bool)) :
    ∃ cv, (execOp a.eval ⟨dst, op, type, pos, after, guard⟩).run P w = .ok (.value cv) w ∧ VR ρ v cv := by
  cases op
  case load t y =>
    simp only [cMO] at h
    split at h <;> simp only [Option.some.injEq, reduceCtorEq, MO.r.injEq] at h
    rename_i i y' hi hy
    subst h
    have hu' : Ev.os e y' ≠ .un := by
      intro hh; simp only [rv, hh, ldv, reduceCtorEq] at hv
    have hq := he.os hy rfl hu'
    obtain ⟨cv, ad, h1, h2, h3⟩ := ld_sound hty hi hr hq (v := v) (by
      simp only [rv] at hv
      exact hv)
    refine ⟨cv, execV ?_, h3⟩
    unfold Instr.loadAt
    simp only [h1, Instr.sureAddr, Sem.run_bind, Sem.run_pure, Result.andThen_ok, h2]
  case convert sT d y =>
    simp only [cMO] at h
    split at h
    · rename_i i j y' h1 h2 h3
      split at h
      · simp at h
      · simp at h
      · rename_i el hi hj
        split at h
        · rename_i k hk
          split at h <;> simp only [Option.some.injEq, reduceCtorEq, MO.r.injEq] at h
          rename_i hku
          subst h
          have hus : P.underlying sT = some (.slice el) := by rw [hty.under h1]; exact congrArg _ hi
          have hud : P.underlying d = some .string := by rw [hty.under h2]; exact congrArg _ hj
          have hue : P.underlying el = some (.int .u8) := by rw [hty.under hk]; exact congrArg _ hku
          simp only [rv] at hv
          split at hv
          · rename_i h4
            simp only [Option.some.injEq] at hv; subst hv
            refine ⟨.string .empty, execV ?_, _, rfl, rfl⟩
            rw [show a.eval y = .slice none 0 0 from he.at h3 h4]
            unfold convert
            simp only [Sem.run_bind, run_under hus, run_under hud, run_under hue, Result.andThen_ok]
            rfl
          · rename_i bl o n sz full h4
            replace hv := cond_some hv
            obtain ⟨h5, hv⟩ := hv
            simp only [nbeq, beq_iff_eq] at h5
            subst h5
            split at hv
            · rename_i l hl
              split at hv
              · rename_i b hb
                simp only [Option.some.injEq] at hv; subst hv
                obtain ⟨cb, sh, zz, ad, cap, r1, r2, r3, r4, r5, r6, r7⟩ := he.at h3 h4
                obtain ⟨cs, g1, g2, g3⟩ := hr.cells_there hl r1
                have g4 := bytesIn_sound hb g2
                have g5 : (loadCells ad n).run P w = .ok ((b.map fun (n : Nat) => (n : Int)).map (Value.int .u8)).toArray w := by
                  by_cases hn : n = 0
                  · subst hn
                    have : cs = [] := List.eq_nil_of_length_eq_zero g1
                    rw [← g4, this]; rfl
                  · rw [r5 (by omega), ← g1, ← g4]
                    exact run_loadCells_list w _ cs g3
                refine ⟨.string ((b.map fun (n : Nat) => (n : Int)).foldl (fun r n => r.push (UInt8.ofNat n.toNat)) ByteArray.empty), execV ?_, _, rfl, ?_⟩
                · rw [r2]
                  unfold convert
                  simp only [Sem.run_bind, run_under hus, run_under hud, run_under hue, Result.andThen_ok]
                  exact run_bytesToString w ad n cap _ g5
                · rw [foldl_push]
                  rw [show ByteArray.empty.data.toList = [] from rfl, List.nil_append, List.map_map]
                  exact bytesIn_le hb
              · simp at hv
            · simp at hv
          · simp at hv
        · simp at h
      · simp at h
    · simp at h
  all_goals
    first
      | (simp only [cMO, reduceCtorEq] at h; done)
      | (simp only [cMO, Option.map_eq_some_iff, reduceCtorEq, and_false, exists_false] at h; done)
      | (simp only [cMO] at h; (repeat' split at h) <;> simp at h; done)
      | skip
  case makeFunc fn first caps =>
    cases fn <;> simp only [cMO, reduceCtorEq] at h
    split at h <;> simp at h
  case call c =>
    simp only [cMO] at h
    split at h
    · split at h
      · exact absurd h (by
          intro hh
          unfold cBuiltin at hh
          (repeat' split at hh) <;> simp at hh)
      · (repeat' split at h) <;> simp at h
      · simp at h
      · simp at h
    · simp at h

/-! New blocks. -/
theorem lrep_length (z : List S) : ∀ n, (lrep z n).length = n * z.length
  | 0 => by show ([] : List S).length = _; simp
  | n + 1 => by
    show (lapp z (lrep z n)).length = _
    rw [lapp_eq, List.length_append, lrep_length z n, Nat.succ_mul]; omega
theorem lrep_get (z : List S) : ∀ n i, i < n * z.length → (lrep z n)[i]? = z[i % z.length]?
  | 0, i, h => by simp at h
  | n + 1, i, h => by
    show (lapp z (lrep z n))[i]? = _
    rw [lapp_eq]
    by_cases hi : i < z.length
    · rw [List.getElem?_append_left hi, Nat.mod_eq_of_lt hi]
    · have h' : i < n * z.length + z.length := by rw [← Nat.succ_mul]; exact h
      rw [List.getElem?_append_right (by omega), lrep_get z n _ (by omega)]
      rw [← Nat.mod_eq_sub_mod (by omega)]
theorem lrep_lr {ρ : Rho} {z : List S} {zc : Array Value} (h : LR (SR ρ) z zc.toList) (n : Nat) : LR (SR ρ) (lrep z n) ((Array.range (n * zc.size)).map (zc[· % zc.size]!)).toList := by
  have hl : z.length = zc.size := by rw [h.length]; simp
  refine LR.of_get (by rw [lrep_length, hl]; simp) fun i a b ha hb => ?_
  have hi : i < n * z.length := by have := (List.getElem?_eq_some_iff.1 ha).1; rwa [lrep_length] at this
  rw [lrep_get z n i hi] at ha
  obtain ⟨c, h1, h2⟩ := h.get ha
  have hpos : 0 < z.length := by
    rcases Nat.eq_zero_or_pos z.length with h0 | h0
    · rw [h0] at hi; omega
    · exact h0
  have hlt : i % z.length < z.length := Nat.mod_lt _ hpos
  simp only [Array.toList_map, Array.toList_range, List.getElem?_map, List.getElem?_range (show i < n * zc.size by rw [← hl]; exact hi), Option.map_some, Option.some.injEq] at hb
  rw [← hb]
  have : zc[i % zc.size]! = c := by
    rw [← hl]
    have h3 : zc[i % z.length]? = some c := by simpa using h1
    rw [getElem!_def, h3]
  rw [this]; exact h2

theorem av_sound {P : Program} {ty : TypeId → Option TyI} {ibs : FuncId → Bool} (hty : TyOk P ty) {op : Op} {x : A} (h : cMO ty ibs op = some (.a x)) {ρ : Rho} {e : E} {a : Act} (he : ER ρ e a)
    {l : List S} {f : Nat → V} (hv : av e x = some (l, f)) (dst : Option Tmp) (type : TypeId) (pos : String) (after : Array Edge) (guard : Option (Nat × Bool)) (w : World) :
    ∃ cv cells el, (execOp a.eval ⟨dst, op, type, pos, after, guard⟩).run P w = .ok (.value cv) (w.alloc (.cells cells el)) ∧ LR (SR ρ) l cells.toList ∧
      ∀ (ρ' : Rho) (n : Nat), ρ' n = some (w.heap.size, 0, cells.size) → VR ρ' (f n) cv := by
  cases op
  case alloc t =>
    simp only [cMO, Option.map_eq_some_iff] at h
    obtain ⟨i, hi, h⟩ := h
    simp only [MO.a.injEq] at h; subst h
    obtain ⟨inf, z, hi1, hi2, hi3, hi4, hi5⟩ := hty.info hi
    simp only [av, Option.some.injEq, Prod.mk.injEq] at hv
    obtain ⟨rfl, rfl⟩ := hv
    refine ⟨.pointer (some ⟨w.heap.size, 0, none⟩), z.cells, t, execV ?_, valL_lr ρ hi5, fun ρ' n hn => ⟨_, _, _, hn, rfl⟩⟩
    unfold Instr.alloc
    simp only [Sem.run_bind, run_zero hi1 hi4, Result.andThen_ok, newVar, newRow, run_newObj, Sem.run_pure]
    rfl
  case box t y =>
    simp only [cMO, Option.map_eq_some_iff] at h
    obtain ⟨y', hy, h⟩ := h
    simp only [MO.a.injEq] at h; subst h
    simp only [av] at hv
    split at hv
    · rename_i l' hl
      simp only [Option.some.injEq, Prod.mk.injEq] at hv
      obtain ⟨rfl, rfl⟩ := hv
      refine ⟨.pointer (some ⟨w.heap.size, 0, none⟩), (a.eval y).cells, t, execV ?_, VR.cells (he.ov hy) hl, fun ρ' n hn => ⟨_, _, _, hn, rfl⟩⟩
      unfold Instr.box
      simp only [Sem.run_bind, Result.andThen_ok, newVar, newRow, run_newObj, Sem.run_pure]
      rfl
    · simp at hv
  case buildSlice t n ps =>
    simp only [cMO] at h
    split at h
    · rename_i j hj
      split at h
      · simp at h
      · rename_i hc
        simp only [not_or, Nat.not_lt, Decidable.not_not] at hc
        obtain ⟨hz, hbig, hzl⟩ := hc
        simp only [Option.map_eq_some_iff] at h
        obtain ⟨qs, hq, h⟩ := h
        simp only [MO.a.injEq] at h; subst h
        obtain ⟨el, hu, hj'⟩ := hty.elem hj
        obtain ⟨inf, z, hi1, hi2, hi3, hi4, hi5⟩ := hty.info hj'
        simp only [av] at hv
        split at hv
        · rename_i l' hl
          simp only [Option.some.injEq, Prod.mk.injEq] at hv
          obtain ⟨rfl, rfl⟩ := hv
          have hzc := valL_lr ρ hi5
          have hzs : z.cells.size = j.sz := by rw [← hzl, hzc.length]; simp
          obtain ⟨out, h1, h2⟩ := putAll_sound he hq hl (lrep_lr hzc n)
          have hps : (ps.map fun (i, x) => (i, a.eval x)).toList = ps.toList.map fun p => (p.1, a.eval p.2) := by simp
          have hlen : out.size = n * j.sz := by
            have e1 := h2.length
            have e2 : ∀ {qs : List (Nat × Nat × O)} {z l : List S}, putAll z e qs = some l → l.length = z.length := by
              intro qs
              induction qs with
              | nil => intro z l h; have : some z = some l := h; simp only [Option.some.injEq] at this; rw [this]
              | cons p qs ih =>
                intro z l h
                have h' : (match cellsOf (ov e p.2.2) with
                  | none => none
                  | some l' => bif Nat.beq (llen l') p.2.1 && Nat.ble (Nat.add p.1 p.2.1) (llen z) then putAll (lput z l' p.1) e qs else none) = some l := h
                cases hc : cellsOf (ov e p.2.2) with
                | none => simp [hc] at h'
                | some l' =>
                  simp only [hc] at h'
                  obtain ⟨ht, h'⟩ := cond_some h'
                  obtain ⟨t1, t2⟩ := (Bool.and_eq_true _ _).mp ht
                  rw [nbeq, beq_iff_eq, llen_eq] at t1
                  have t2 := Nat.le_of_ble_eq_true t2
                  rw [llen_eq] at t2
                  rw [ih h', lput_eq]
                  simp only [List.length_append, List.length_take, List.length_drop]
                  have t3 : p.1 + p.2.1 ≤ z.length := t2
                  omega
            rw [e2 hl, lrep_length, hzl] at e1
            simpa using e1.symm
          refine ⟨.slice (some ⟨w.heap.size, 0, none⟩) n n, out, el, execV ?_, h2, fun ρ' m hm => ⟨_, _, _, _, n, hm, rfl, Nat.le_refl _, fun _ => rfl, fun _ => rfl, by rw [hlen]; omega, by omega⟩⟩
          unfold Instr.buildSlice
          simp only [Sem.run_bind, run_under hu, Result.andThen_ok, run_size hi1, hi2]
          rw [if_neg (by omega)]
          rw [hps]
          by_cases hn : n * j.sz = 0
          · have hn0 : n = 0 := by
              rcases Nat.mul_eq_zero.1 hn with h' | h'
              · exact h'
              · exact absurd h' hz
            subst hn0
            simp only [Nat.zero_mul, if_true, Sem.run_bind, Sem.run_pure, Result.andThen_ok]
            have e0 : ((Array.range 0).map fun (x : Nat) => (#[] : Array Value)[x % (#[] : Array Value).size]!) = ((Array.range (0 * z.cells.size)).map (z.cells[· % z.cells.size]!)) := by simp
            rw [e0, h1]
            rfl
          · simp only [hn, if_false, Sem.run_bind, run_zero hi1 hi4, Sem.run_pure, Result.andThen_ok]
            have h1' := h1
            rw [hzs] at h1'
            rw [hzs, h1']
            rfl
        · simp at hv
    · simp at h
  case makeSlice t n c =>
    simp only [cMO] at h
    split at h
    · rename_i j n' c' hj hn hc
      split at h
      · simp at h
      · rename_i hcc
        simp only [not_or, Decidable.not_not] at hcc
        obtain ⟨hz, hzl⟩ := hcc
        simp only [Option.some.injEq, MO.a.injEq] at h; subst h
        obtain ⟨el, hu, hj'⟩ := hty.elem hj
        obtain ⟨inf, z, hi1, hi2, hi3, hi4, hi5⟩ := hty.info hj'
        simp only [av] at hv
        split at hv
        · rename_i nn cc h1 h2
          obtain ⟨hle, hv⟩ := cond_some hv
          obtain ⟨hle, hbig, h63⟩ := ble3 hle
          rw [m63_eq] at h63
          have hbig : j.by_ * cc ≤ 140737488355328 := hbig
          simp only [Option.some.injEq, Prod.mk.injEq] at hv
          obtain ⟨rfl, rfl⟩ := hv
          have hzc := valL_lr ρ hi5
          have hzs : z.cells.size = j.sz := by rw [← hzl, hzc.length]; simp
          have w1 : IntKind.i64.wrap (nn : Int) = nn := IntWalk.i64_in _ ⟨by omega, by omega⟩
          have w2 : IntKind.i64.wrap (cc : Int) = cc := IntWalk.i64_in _ ⟨by omega, by omega⟩
          have hl0 := lrep_lr hzc cc
          rw [hzs] at hl0
          refine ⟨.slice (some ⟨w.heap.size, 0, none⟩) nn cc, (Array.range (cc * j.sz)).map (z.cells[· % j.sz]!), el, execV ?_, hl0, fun ρ' m hm => ⟨_, _, _, _, cc, hm, rfl, hle, ?_, fun _ => rfl, ?_, by omega⟩⟩
          · rw [on_sound he hn h1, on_sound he hc h2]
            unfold Instr.makeSlice
            simp only [Sem.run_bind, run_under hu, Result.andThen_ok, asInt, asIntOf, Sem.run_pure, run_tinfo hi1, hi3, w1, w2]
            have hbi : ((j.by_ : Int) * (cc : Int)) ≤ 140737488355328 := by have := Int.ofNat_le.2 hbig; rw [← Int.natCast_mul]; exact this
            have t1 : (decide ((cc : Int) < 0) || decide ((j.by_ : Int) * (cc : Int) > 2 ^ 48)) = false := by
              rw [Bool.or_eq_false_iff]
              exact ⟨decide_eq_false (by omega), decide_eq_false (by omega)⟩
            have t2 : (decide ((nn : Int) < 0)) = false := decide_eq_false (by omega)
            have t3 : (decide ((nn : Int) > (cc : Int))) = false := decide_eq_false (by omega)
            rw [if_neg (by rw [t1, t2, t3]; simp)]
            simp only [Sem.run_bind, run_askRoom, Result.andThen_ok, run_size hi1, hi2, Int.toNat_natCast]
            by_cases hn0 : cc * j.sz = 0
            · simp only [hn0, if_true, Sem.run_bind, Sem.run_pure, Result.andThen_ok, newRow, run_newObj]
              have e0 : ∀ f : Nat → Value, (Array.range 0).map f = #[] := fun f => by simp
              rw [e0, e0]
              rfl
            · simp only [hn0, if_false, Sem.run_bind, run_zero hi1 hi4, Sem.run_pure, Result.andThen_ok, newRow, run_newObj, hzs]
              rfl
          · intro hf; rw [nbeq, beq_iff_eq] at hf; exact hf.symm
          · simp
        · simp at hv
    · simp at h
  all_goals
    first
      | (simp only [cMO, reduceCtorEq] at h; done)
      | (simp only [cMO, Option.map_eq_some_iff, reduceCtorEq, and_false, exists_false] at h; done)
      | (simp only [cMO] at h; (repeat' split at h) <;> simp at h; done)
      | skip
  case makeFunc fn first caps =>
    cases fn <;> simp only [cMO, reduceCtorEq] at h
    split at h <;> simp at h
  case call c =>
    simp only [cMO] at h
    split at h
    · split at h
      · exact absurd h (by
          intro hh
          unfold cBuiltin at hh
          (repeat' split at hh) <;> simp at hh)
      · (repeat' split at h) <;> simp at h
      · simp at h
      · simp at h
    · simp at h
end Go.Ev
