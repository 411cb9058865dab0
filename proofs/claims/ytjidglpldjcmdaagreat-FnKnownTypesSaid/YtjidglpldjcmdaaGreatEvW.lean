/-
Operations that touch no memory: what the evaluator yields is what the model yields.
-/
import Derived.Test.YtjidglpldjcmdaaGreatEvF
import Derived.Laws.Slices
import Derived.Laws.Strings
import Derived.Laws.Cover1
import Derived.Laws.Concat
import Derived.IntWalk
set_option linter.unusedVariables false
set_option linter.unusedSimpArgs false
namespace Go.Ev
open Go

theorem m63_eq : m63 = 9223372036854775807 := rfl
theorem ble_of {a : Nat} (h : Nat.ble a m63 = true) : (a : Int) ≤ 9223372036854775807 := by
  have h1 := Nat.le_of_ble_eq_true h
  have h2 : (a : Int) ≤ (m63 : Int) := Int.ofNat_le.2 h1
  rw [m63_eq] at h2
  exact h2
theorem w64_in (n : Int) (h : -9223372036854775808 ≤ n) (h' : n ≤ 9223372036854775807) : n = IntKind.i64.wrap n := (IntWalk.i64_in n ⟨h, h'⟩).symm
theorem w64_eq (n : Int) : w64 n = IntKind.i64.wrap n := by
  cases n with
  | ofNat a =>
    show (bif Nat.ble a m63 then Int.ofNat a else IntKind.i64.wrap (Int.ofNat a)) = _
    have hn : Int.ofNat a = (a : Int) := rfl
    generalize Int.ofNat a = n at hn
    cases h : Nat.ble a m63 with
    | false => rw [cond_false]
    | true => have h1 := ble_of h; rw [cond_true]; exact w64_in n (by omega) (by omega)
  | negSucc a =>
    show (bif Nat.ble a m63 then Int.negSucc a else IntKind.i64.wrap (Int.negSucc a)) = _
    have hn := Int.negSucc_eq a
    generalize Int.negSucc a = n at hn
    cases h : Nat.ble a m63 with
    | false => rw [cond_false]
    | true => have h1 := ble_of h; rw [cond_true]; exact w64_in n (by omega) (by omega)
theorem ile_eq (a b : Int) : ile a b = decide (a ≤ b) := by
  cases a <;> cases b <;> simp only [ile, nble] <;> rw [Bool.eq_iff_iff] <;> simp <;> omega
theorem ieq_eq (a b : Int) : ieq a b = (a == b) := by
  cases a <;> cases b <;> simp only [ieq, nbeq] <;> rw [Bool.eq_iff_iff] <;> simp <;> omega
theorem kbeq_eq {a b : IntKind} (h : kbeq a b = true) : a = b := by
  cases a <;> cases b <;> first | rfl | (simp [kbeq, kix] at h)
theorem mkI_sr (ρ : Rho) (k : IntKind) (n : Int) : SR ρ (mkI k n) (.int k n) := by cases k <;> rfl
theorem semS_sound (ρ : Rho) {m : Sem Value} {v : V} (h : semS m = some v) : ∃ cv, m = .pure cv ∧ VR ρ v cv := by
  unfold semS at h
  split at h <;> simp only [Option.some.injEq, reduceCtorEq] at h
  · exact ⟨_, rfl, h ▸ mkI_sr ρ _ _⟩
  · exact ⟨_, rfl, h ▸ rfl⟩

/-! Strings. -/
theorem seq_eq : ∀ (l m : List Nat), seq l m = (l == m)
  | [], [] => rfl
  | [], _ :: _ => rfl
  | _ :: _, [] => rfl
  | x :: l, y :: m => by
    show (Bool.rec (motive := fun _ => Bool) false (seq l m) (Nat.beq x y)) = _
    rw [seq_eq l m, nbeq]
    by_cases h : x = y
    · subst h; simp
    · have : (x == y) = false := by simpa using h
      simp [this]
theorem map_toNat_inj : ∀ {l m : List UInt8}, l.map UInt8.toNat = m.map UInt8.toNat → l = m
  | [], [], _ => rfl
  | [], _ :: _, h => by simp at h
  | _ :: _, [], h => by simp at h
  | x :: l, y :: m, h => by
    simp only [List.map_cons, List.cons.injEq] at h
    rw [map_toNat_inj h.2, UInt8.toNat_inj.1 h.1]
theorem map_toNat_beq (l m : List UInt8) : (l.map UInt8.toNat == m.map UInt8.toNat) = (l == m) := by
  rw [Bool.eq_iff_iff]
  simp only [beq_iff_eq]
  exact ⟨map_toNat_inj, fun h => h ▸ rfl⟩
theorem slt_eq : ∀ (l m : List UInt8), slt (l.map UInt8.toNat) (m.map UInt8.toNat) = Op.bytesLess l m
  | [], [] => rfl
  | [], _ :: _ => rfl
  | _ :: _, [] => by simp only [List.map_nil]; rfl
  | x :: l, y :: m => by
    show (Bool.rec (motive := fun _ => Bool) (Nat.ble (Nat.succ x.toNat) y.toNat) (slt (l.map UInt8.toNat) (m.map UInt8.toNat)) (Nat.beq x.toNat y.toNat)) = _
    rw [slt_eq l m, nbeq, nble, show Op.bytesLess (x :: l) (y :: m) = (decide (x < y) || (x == y && Op.bytesLess l m)) from rfl]
    by_cases h : x = y
    · subst h; simp [UInt8.lt_irrefl]
    · have h1 : ¬ x.toNat = y.toNat := fun e => h (UInt8.toNat_inj.1 e)
      have : (x.toNat == y.toNat) = false := by simpa using h1
      have h2 : (x == y) = false := by simpa using h
      simp only [this, h2, Bool.false_and, Bool.or_false]
      rw [Bool.eq_iff_iff]
      simp [UInt8.lt_iff_toNat_lt, Nat.succ_le_iff]
theorem binS_sound (P : Program) (ρ : Rho) {op : BinOp} {a b : ByteArray} {v : V} (h : binS op (a.data.toList.map UInt8.toNat) (b.data.toList.map UInt8.toNat) = some v) (t : TypeId) (w : World) :
    ∃ cv, (binOp op t (.string a) (.string b)).run P w = .ok cv w ∧ VR ρ v cv := by
  cases op <;> simp only [binS, Option.some.injEq, reduceCtorEq] at h
  case add =>
    obtain ⟨hc, h⟩ := cond_some h
    simp only [Option.some.injEq] at h
    have hle := Nat.le_of_ble_eq_true hc
    simp only [llen_eq, List.length_map, Nat.add_eq] at hle
    refine ⟨.string (a ++ b), ?_, ?_⟩
    · rw [binOp_string_add]
      exact run_string_add_sum w a b (by show a.data.size + b.data.size ≤ _; simp only [Array.length_toList] at hle; omega)
    · subst h
      exact ⟨a ++ b, rfl, by rw [lapp_eq]; simp⟩
  all_goals
    subst h
    refine ⟨_, by simp [binOp, Op.stringOp, pure, Sem.run]; rfl, ?_⟩
    simp [VR, SR, seq_eq, slt_eq, map_toNat_beq, ByteArray.toList_eq]

/-! Numbers. -/
theorem binOp_t (op : BinOp) (t : TypeId) (k k' : IntKind) (a b : Int) : binOp op t (.int k a) (.int k' b) = binOp op 0 (.int k a) (.int k' b) := by cases op <;> rfl
theorem bin64_sound (P : Program) (ρ : Rho) {op : BinOp} {a b : Int} {v : V} (h : bin64 op a b = some v) (t : TypeId) (w : World) :
    ∃ cv, (binOp op t (.int .i64 a) (.int .i64 b)).run P w = .ok cv w ∧ VR ρ v cv := by
  rw [binOp_t]
  cases op <;> simp only [bin64] at h
  case add => simp only [Option.some.injEq] at h; subst h; exact ⟨_, rfl, by show _ = _; rw [w64_eq]; rfl⟩
  case sub => simp only [Option.some.injEq] at h; subst h; exact ⟨_, rfl, by show _ = _; rw [w64_eq]; rfl⟩
  case mul => simp only [Option.some.injEq] at h; subst h; exact ⟨_, rfl, by show _ = _; rw [w64_eq]; rfl⟩
  case eql => simp only [Option.some.injEq] at h; subst h; exact ⟨_, rfl, by show _ = _; rw [ieq_eq]⟩
  case neq => simp only [Option.some.injEq] at h; subst h; exact ⟨_, rfl, by show _ = _; rw [ieq_eq]; rfl⟩
  case lss => simp only [Option.some.injEq] at h; subst h; exact ⟨_, rfl, by show _ = _; rw [ile_eq]; congr 1; rw [Bool.eq_iff_iff]; simp⟩
  case leq => simp only [Option.some.injEq] at h; subst h; exact ⟨_, rfl, by show _ = _; rw [ile_eq]⟩
  case gtr => simp only [Option.some.injEq] at h; subst h; exact ⟨_, rfl, by show _ = _; rw [ile_eq]; congr 1; rw [Bool.eq_iff_iff]; simp⟩
  case geq => simp only [Option.some.injEq] at h; subst h; exact ⟨_, rfl, by show _ = _; rw [ile_eq]⟩
  all_goals
    obtain ⟨cv, h1, h2⟩ := semS_sound ρ h
    exact ⟨cv, by rw [h1]; rfl, h2⟩
theorem binJ_sound (P : Program) (ρ : Rho) {op : BinOp} {k k' : IntKind} {a b : Int} {v : V} (h : binJ op k a k' b = some v) (t : TypeId) (w : World) :
    ∃ cv, (binOp op t (.int k a) (.int k' b)).run P w = .ok cv w ∧ VR ρ v cv := by
  rw [binOp_t]
  have key : ∀ {x : V}, (bif kbeq k k' then some x else none) = some v → k = k' ∧ x = v := fun hh => by
    obtain ⟨h1, h2⟩ := cond_some hh
    exact ⟨kbeq_eq h1, by simpa using h2⟩
  cases op <;> simp only [binJ] at h
  case eql => obtain ⟨rfl, rfl⟩ := key h; exact ⟨_, by simp [binOp, Op.intCmp, pure, Sem.run]; rfl, by show _ = _; rw [ieq_eq]⟩
  case neq => obtain ⟨rfl, rfl⟩ := key h; exact ⟨_, by simp [binOp, Op.intCmp, pure, Sem.run]; rfl, by show _ = _; rw [ieq_eq]; rfl⟩
  case lss => obtain ⟨rfl, rfl⟩ := key h; exact ⟨_, by simp [binOp, Op.intCmp, pure, Sem.run]; rfl, by show _ = _; rw [ile_eq]; congr 1; rw [Bool.eq_iff_iff]; simp⟩
  case leq => obtain ⟨rfl, rfl⟩ := key h; exact ⟨_, by simp [binOp, Op.intCmp, pure, Sem.run]; rfl, by show _ = _; rw [ile_eq]⟩
  case gtr => obtain ⟨rfl, rfl⟩ := key h; exact ⟨_, by simp [binOp, Op.intCmp, pure, Sem.run]; rfl, by show _ = _; rw [ile_eq]; congr 1; rw [Bool.eq_iff_iff]; simp⟩
  case geq => obtain ⟨rfl, rfl⟩ := key h; exact ⟨_, by simp [binOp, Op.intCmp, pure, Sem.run]; rfl, by show _ = _; rw [ile_eq]⟩
  all_goals
    obtain ⟨cv, h1, h2⟩ := semS_sound ρ h
    exact ⟨cv, by rw [h1]; rfl, h2⟩
end Go.Ev
