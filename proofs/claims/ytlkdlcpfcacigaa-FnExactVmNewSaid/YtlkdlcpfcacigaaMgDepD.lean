import Derived.Test.YtlkdlcpfcacigaaMgElem
import Derived.Test.YtlkdlcpfcacigaaMgLib
/- How many values there are at each place of a function: the search, step for step. Plain. -/
namespace Go.Proofs.Ytlkdlcpfcacigaa
open Go.RowKit
set_option linter.unusedVariables false

/-- what values a place takes. -/
def takesOf (c m : Int) : Int :=
  if c = 5 ∨ c = 8 then m else if c = 6 ∨ c = 12 ∨ c = 13 ∨ c = 14 ∨ c = 15 ∨ c = 16 ∨ c = 20 then 2 else if c = 7 ∨ c = 10 ∨ c = 11 ∨ c = 18 ∨ c = 9 ∨ c = 17 then 1 else 0
def putsOf (c : Int) : Int :=
  if c = 7 ∨ c = 10 ∨ c = 11 ∨ c = 18 ∨ c = 19 ∨ c = 21 then 0 else if 1 ≤ c ∧ c ≤ 21 then 1 else 0
/-- a place may not be, with so many values. -/
def aftB (o : O3) (d : Int) : Bool := (decide (d - 1 < takesOf o.c o.m) || (decide (o.c = 2) && decide (d ≤ o.n))) || (decide (60 < d - takesOf o.c o.m + putsOf o.c) || (decide (o.c = 7) && decide (d ≠ 2)))
def aftN (o : O3) (d : Int) : Int := d - takesOf o.c o.m + putsOf o.c
/-- the places that may come behind a place. -/
def fol (o : O3) (p : Int) : List Int :=
  if o.c = 7 ∨ o.c = 21 then [] else if o.c = 19 then [o.n] else if o.c = 10 ∨ o.c = 11 then [p + 1, o.m] else if o.c = 18 then [p + 1, o.n] else [p + 1]
/-- the places behind a place are gone through: none: out of what is told here; some none: it may not be. -/
def dIn (d : Int) : List Int → List Int → List Int → Option (Option (List Int × List Int))
  | [], out, todo => some (some (out, todo))
  | q :: l, out, todo => if 0 ≤ q ∧ q < out.length then (if out.getD q.toNat 0 < 0 then dIn d l (out.set q.toNat d) (todo ++ [q]) else if out.getD q.toNat 0 = d then dIn d l out todo else some none) else none
def topT (todo : List Int) : Int := todo.getD (todo.length - 1) 0
def opT (os : List O3) (p : Int) : O3 := os.getD p.toNat ⟨0, 0, 0⟩
/-- numbers that are as they should be. -/
def dOk (os : List O3) (out todo : List Int) : Bool :=
  (decide (out.length = os.length ∧ os.length ≤ 3000) && decide (todo.length ≤ 100000)) && (decide (0 ≤ topT todo ∧ topT todo < os.length) && decide (1 ≤ out.getD (topT todo).toNat 0 ∧ out.getD (topT todo).toNat 0 ≤ 60))
def dRun (fl : O3 → Int → List Int) (os : List O3) : Nat → List Int → List Int → Option (Option (List Int))
  | 0, _, _ => none
  | f + 1, out, todo => if todo.length = 0 then some (some out) else
    if dOk os out todo then
      (if aftB (opT os (topT todo)) (out.getD (topT todo).toNat 0) then some none else
      match dIn (aftN (opT os (topT todo)) (out.getD (topT todo).toNat 0)) (fl (opT os (topT todo)) (topT todo)) out todo.dropLast with
      | some (some (out', todo')) => dRun fl os f out' todo'
      | some none => some none
      | none => none)
    else none
def dFirst (os : List O3) : List Int := (List.replicate os.length (-1)).set 0 1

end Go.Proofs.Ytlkdlcpfcacigaa

/- Effect: what values a place takes, what it puts. -/
namespace Go.Proofs.Ytlkdlcpfcacigaa
open Go.RowKit
set_option linter.unusedVariables false
set_option linter.unusedSimpArgs false

theorem iEffect_lit (c n m : Int) (hc : 1 ≤ c ∧ c ≤ 21) (w : World) :
    Calls Try.prog 67 #[.agg #[.int .i64 c, .int .i64 n, .int .i64 m]] w fun e w' => e = .returned (.tuple #[.int .i64 (takesOf c m), .int .i64 (putsOf c)]) ∧ Below w.heap.size w w' := by
  have hcs : c = 1 ∨ c = 2 ∨ c = 3 ∨ c = 4 ∨ c = 5 ∨ c = 6 ∨ c = 7 ∨ c = 8 ∨ c = 9 ∨ c = 10 ∨ c = 11 ∨ c = 12 ∨ c = 13 ∨ c = 14 ∨ c = 15 ∨ c = 16 ∨ c = 17 ∨ c = 18 ∨ c = 19 ∨ c = 20 ∨ c = 21 := by omega
  rcases hcs with rfl | rfl | rfl | rfl | rfl | rfl | rfl | rfl | rfl | rfl | rfl | rfl | rfl | rfl | rfl | rfl | rfl | rfl | rfl | rfl | rfl
  all_goals
    go_enter Try.func67, Try.ntmps67
    go_wp2_with fail
    generalize hxx : w.alloc _ = x0
    obtain ⟨bx, k1⟩ := Bx.alloc hxx
    clear hxx
    have ck := k1.2.1
    have yk := k1.1
    go_wp2
    go_ret2
    exact ⟨rfl, bx⟩

end Go.Proofs.Ytlkdlcpfcacigaa

/- What comes behind a place: how many values, which places. -/
namespace Go.Proofs.Ytlkdlcpfcacigaa
open Go.RowKit
set_option linter.unusedVariables false
set_option linter.unusedSimpArgs false

theorem takes_bd {c m : Int} (hm : -1000000 ≤ m ∧ m ≤ 1000000) : (-1000000 ≤ takesOf c m ∧ takesOf c m ≤ 1000000) ∧ (0 ≤ putsOf c ∧ putsOf c ≤ 1) := by
  unfold takesOf putsOf
  refine ⟨?_, ?_⟩
  · repeat' split
    all_goals omega
  · repeat' split
    all_goals omega
theorem takes_bd2 {c m : Int} (hm : -2147483648 ≤ m ∧ m ≤ 2147483648) : (-2147483648 ≤ takesOf c m ∧ takesOf c m ≤ 2147483648) ∧ (0 ≤ putsOf c ∧ putsOf c ≤ 1) := by
  unfold takesOf putsOf
  refine ⟨?_, ?_⟩
  · repeat' split
    all_goals omega
  · repeat' split
    all_goals omega
/-- what after tells. -/
def aftV (o : O3) (d : Int) : Value := if aftB o d then .tuple #[.int .i64 0, .bool false] else .tuple #[.int .i64 (aftN o d), .bool true]
set_option maxHeartbeats 1600000 in
set_option maxRecDepth 100000 in
theorem iAfter_any (c n m d : Int) (w : World) (hr : 1 ≤ c ∧ c ≤ 21) (hn : -2147483648 ≤ n ∧ n ≤ 2147483648) (hm : -2147483648 ≤ m ∧ m ≤ 2147483648) (hd : 1 ≤ d ∧ d ≤ 60) :
    Calls Try.prog 61 #[.agg #[.int .i64 c, .int .i64 n, .int .i64 m], .int .i64 d] w fun e w' => e = .returned (aftV ⟨c, n, m⟩ d) ∧ Below w.heap.size w w' := by
  have HE := Lib.hid (fun (W : World) => iEffect_lit c n m hr W)
  obtain ⟨⟨t0, t1⟩, p0, p1⟩ := takes_bd2 (c := c) hm
  unfold aftV aftB aftN
  dsimp only
  obtain ⟨T, hT⟩ : ∃ T, takesOf c m = T := ⟨_, rfl⟩
  obtain ⟨P, hP⟩ : ∃ P, putsOf c = P := ⟨_, rfl⟩
  rw [hT, hP] at HE ⊢
  rw [hT] at t0 t1
  rw [hP] at p0 p1
  clear hT hP
  have e1 : IntKind.i64.wrap (d - 1) = d - 1 := IntWalk.i64_in _ (by omega)
  have e2 : IntKind.i64.wrap (d - T) = d - T := IntWalk.i64_in _ (by omega)
  have e3 : IntKind.i64.wrap (d - T + P) = d - T + P := IntWalk.i64_in _ (by omega)
  go_enter Try.func61, Try.ntmps61
  go_wp2_with fail
  generalize hxx : w.alloc _ = x0
  obtain ⟨bb, k1⟩ := Bx.alloc hxx
  clear hxx
  have ck1 := k1.2.1
  have yk1 := k1.1
  refine (HE.out x0).mono ?_
  rintro e w1 ⟨rfl, b1⟩
  clear ck1 yk1
  replace k1 := k1.below b1 k1.1
  replace bb := bb.trans (b1.mono bb.size)
  clear b1
  by_cases hc2 : c = 2
  · subst hc2
    have ck1 := k1.2.1
    have yk1 := k1.1
    have zk1 := k1.2.2
    go_wp2
    all_goals go_ret2
    all_goals refine ⟨?_, bb⟩
    all_goals (simp_all; try omega)
  · by_cases hc7 : c = 7
    · subst hc7
      have ck1 := k1.2.1
      have yk1 := k1.1
      have zk1 := k1.2.2
      go_wp2
      all_goals go_ret2
      all_goals refine ⟨?_, bb⟩
      all_goals (simp_all; try omega)
    · have ck1 := k1.2.1
      have yk1 := k1.1
      have zk1 := k1.2.2
      go_wp2
      all_goals go_ret2
      all_goals refine ⟨?_, bb⟩
      all_goals (simp_all; try omega)

theorem rd_one (w : World) (x : Int) (e : TypeId) : Rd (w.alloc (.cells #[.int .i64 x] e)).heap.size .i64 (w.alloc (.cells #[.int .i64 x] e)) (.slice (some ⟨w.heap.size, 0, none⟩) 1 1) [x] := by
  refine .inr ⟨w.heap.size, 0, 1, rfl, by simp, by simp, ⟨by unfold maxLen; simp, Nat.le_refl _⟩, fun j hj => ?_⟩
  have : j = 0 := by simpa using hj
  subst this
  rw [World.cell?_alloc_at _ _ _ _ rfl]
  rfl
theorem rd_two (w : World) (x y : Int) (e : TypeId) : Rd (w.alloc (.cells #[.int .i64 x, .int .i64 y] e)).heap.size .i64 (w.alloc (.cells #[.int .i64 x, .int .i64 y] e)) (.slice (some ⟨w.heap.size, 0, none⟩) 2 2) [x, y] := by
  refine .inr ⟨w.heap.size, 0, 2, rfl, by simp, by simp, ⟨by unfold maxLen; simp, Nat.le_refl _⟩, fun j hj => ?_⟩
  have : j = 0 ∨ j = 1 := by simp at hj; omega
  rcases this with rfl | rfl
  all_goals
    rw [World.cell?_alloc_at _ _ _ _ rfl]
    rfl
set_option maxHeartbeats 1600000 in
set_option maxRecDepth 100000 in
theorem iFollows_any (c n m : Int) (p : Nat) (hp : p ≤ 3000) (w : World) (hr : 1 ≤ c ∧ c ≤ 21) :
    Calls Try.prog 62 #[.agg #[.int .i64 c, .int .i64 n, .int .i64 m], .int .i64 p] w fun e w' => ∃ v, e = .returned v ∧ Rd w'.heap.size .i64 w' v (fol ⟨c, n, m⟩ p) ∧ (∀ i, v.ownBlock = some i → w.heap.size ≤ i) ∧ Below w.heap.size w w' := by
  have e1 : IntKind.i64.wrap ((p : Int) + 1) = (p : Int) + 1 := IntWalk.i64_in _ (by omega)
  have hcs : c = 1 ∨ c = 2 ∨ c = 3 ∨ c = 4 ∨ c = 5 ∨ c = 6 ∨ c = 7 ∨ c = 8 ∨ c = 9 ∨ c = 10 ∨ c = 11 ∨ c = 12 ∨ c = 13 ∨ c = 14 ∨ c = 15 ∨ c = 16 ∨ c = 17 ∨ c = 18 ∨ c = 19 ∨ c = 20 ∨ c = 21 := by omega
  obtain ⟨F, hF⟩ : ∃ F, fol ⟨c, n, m⟩ (p : Int) = F := ⟨_, rfl⟩
  rw [hF]
  rcases hcs with rfl | rfl | rfl | rfl | rfl | rfl | rfl | rfl | rfl | rfl | rfl | rfl | rfl | rfl | rfl | rfl | rfl | rfl | rfl | rfl | rfl
  all_goals
    simp [fol] at hF
    subst hF
    go_enter Try.func62, Try.ntmps62
    go_wp2_with fail
    generalize hxx : w.alloc _ = x0
    obtain ⟨bx, k1⟩ := Bx.alloc hxx
    have sx : x0.heap.size = w.heap.size + 1 := by rw [← hxx, World.size_alloc]
    clear hxx
    have ck := k1.2.1
    have yk := k1.1
    go_wp2
    go_ret
    first
      | exact ⟨.slice none 0 0, rfl, .inl ⟨rfl, _, _, rfl⟩, fun i hi => (by cases hi), bx⟩
      | exact ⟨.slice (some ⟨w.heap.size + 1, 0, none⟩) 2 2, rfl, by rw [← sx]; exact rd_two _ _ _ _, fun i hi => (by have : w.heap.size + 1 = i := Option.some.inj hi; omega), bx.alloc bx.size _⟩
      | exact ⟨.slice (some ⟨w.heap.size + 1, 0, none⟩) 1 1, rfl, by rw [← sx]; exact rd_one _ _ _, fun i hi => (by have : w.heap.size + 1 = i := Option.some.inj hi; omega), bx.alloc bx.size _⟩

end Go.Proofs.Ytlkdlcpfcacigaa
