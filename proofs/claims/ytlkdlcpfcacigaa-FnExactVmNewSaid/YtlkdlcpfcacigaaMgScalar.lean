import Derived.Test.YtlkdlcpfcacigaaRows
import Derived.Test.YtlkdlcpfcacigaaMgLib
/- Contracts of the small functions on numbers: within, WordOk, IntWord, RefWord, IsRef, WordInt, WordRef, of the program and of the reference. -/
namespace Go.Proofs.Ytlkdlcpfcacigaa
open Go.RowKit
set_option linter.unusedVariables false

theorem within_any (n lo hi : Int) (w : World) :
    Calls Try.prog 44 #[.int .i64 n, .int .i64 lo, .int .i64 hi] w fun e w' => e = .returned (.bool (inB n lo hi)) ∧ w = w' := by
  go_enter Try.func44, Try.ntmps44
  go_wp2
  all_goals go_ret
  all_goals exact ⟨ret_bool (by unfold inB; rw [Bool.eq_iff_iff]; simp; try omega), rfl⟩

theorem l1In_any (n lo hi : Int) (w : World) :
    Calls Try.prog 36 #[.int .i64 n, .int .i64 lo, .int .i64 hi] w fun e w' => e = .returned (.bool (inB n lo hi)) ∧ w = w' := by
  go_enter Try.func36, Try.ntmps36
  go_wp2
  all_goals go_ret
  all_goals exact ⟨ret_bool (by unfold inB; rw [Bool.eq_iff_iff]; simp; try omega), rfl⟩

theorem iWordOk_any (n : Int) (w : World) :
    Calls Try.prog 48 #[.int .i64 n] w fun e w' => e = .returned (.bool (wordB n)) ∧ w = w' := by
  go_enter Try.func48, Try.ntmps48
  go_wp2_with (go_at_call 44; refine (within_any _ _ _ _).mono ?_; rintro e w' ⟨rfl, rfl⟩)
  go_ret
  exact ⟨rfl, rfl⟩

theorem sWordOk_any (n : Int) (w : World) :
    Calls Try.prog 42 #[.int .i64 n] w fun e w' => e = .returned (.bool (wordB n)) ∧ w = w' := by
  go_enter Try.func42, Try.ntmps42
  go_wp2_with (go_at_call 36; refine (l1In_any _ _ _ _).mono ?_; rintro e w' ⟨rfl, rfl⟩)
  go_ret
  exact ⟨rfl, rfl⟩

theorem iIntWord_any (n : Int) (w : World) :
    Calls Try.prog 22 #[.int .i64 n] w fun e w' => e = .returned (.int .i64 (intW n)) ∧ w = w' := by
  cases hw : wordB n
  · go_enter Try.func22, Try.ntmps22
    go_wp2_with (go_at_call 48; refine (iWordOk_any _ _).mono ?_; rintro e w' ⟨rfl, rfl⟩)
    go_ret
    exact ⟨ret_int (by simp [intW, hw]), rfl⟩
  · obtain ⟨h1, h2⟩ := inB_true.1 hw
    go_enter Try.func22, Try.ntmps22
    go_wp2_with (go_at_call 48; refine (iWordOk_any _ _).mono ?_; rintro e w' ⟨rfl, rfl⟩)
    go_ret
    exact ⟨ret_int (by simp [intW, hw]), rfl⟩

theorem sIsRef_any (n : Int) (w : World) :
    Calls Try.prog 56 #[.int .i64 n] w fun e w' => e = .returned (.bool (n % 2 == 0)) ∧ w = w' := by
  go_enter Try.func56, Try.ntmps56
  go_wp2
  go_ret
  exact ⟨rfl, rfl⟩

theorem sWordInt_any (n : Int) (w : World) :
    Calls Try.prog 59 #[.int .i64 n] w fun e w' => e = .returned (.int .i64 (n / 2)) ∧ w = w' := by
  go_enter Try.func59, Try.ntmps59
  go_wp2
  go_ret
  exact ⟨rfl, rfl⟩

theorem sWordRef_any (n : Int) (w : World) :
    Calls Try.prog 58 #[.int .i64 n] w fun e w' => e = .returned (.int .i64 (n / 2)) ∧ w = w' := by
  go_enter Try.func58, Try.ntmps58
  go_wp2
  go_ret
  exact ⟨rfl, rfl⟩

end Go.Proofs.Ytlkdlcpfcacigaa

/- A heap in plain Lean: headers, the places of blocks, what a right heap is. Nothing of the program is named here. -/
namespace Go.Proofs.Ytlkdlcpfcacigaa
set_option linter.unusedVariables false

def hFun (x : Int) : Bool := x / 2 % 2 == 1
def hTag (x : Int) : Int := x / 2 / 2 / 64
def hKids (x : Int) : Int := x / 2 / 2 % 64
/-- a header. -/
def hOk (x : Int) : Bool := decide (x % 2 = 1 ∧ 0 ≤ x ∧ hTag x ≤ 3000 ∧ hKids x ≤ 20)
theorem hOk_true {x : Int} : hOk x = true ↔ x % 2 = 1 ∧ 0 ≤ x ∧ hTag x ≤ 3000 ∧ hKids x ≤ 20 := by simp [hOk]
theorem hOk_false {x : Int} : hOk x = false ↔ ¬ (x % 2 = 1 ∧ 0 ≤ x ∧ hTag x ≤ 3000 ∧ hKids x ≤ 20) := by rw [← hOk_true]; simp
def hK (x : Int) : Nat := (hKids x).toNat
theorem hKids_nonneg (x : Int) : 0 ≤ hKids x ∧ hKids x < 64 := by unfold hKids; omega
theorem hK_cast (x : Int) : (hK x : Int) = hKids x := by have := hKids_nonneg x; unfold hK; omega

/-- the places of blocks from a place on; none: they do not fit. -/
def places (ws : List Int) (nx : Nat) : Nat → Nat → Option (List Nat)
  | 0, _ => some []
  | f + 1, p => if p < nx then (if hOk (ws.getD p 0) = true ∧ p + 1 + hK (ws.getD p 0) ≤ nx then (places ws nx f (p + 1 + hK (ws.getD p 0))).map (p :: ·) else none) else some []
theorem places_end {ws : List Int} {nx f p : Nat} (h : ¬ p < nx) : places ws nx f p = some [] := by
  cases f
  · rfl
  · rw [places, if_neg h]
theorem places_go {ws : List Int} {nx f p : Nat} (h : p < nx) (h1 : hOk (ws.getD p 0) = true) (h2 : p + 1 + hK (ws.getD p 0) ≤ nx) : places ws nx (f + 1) p = (places ws nx f (p + 1 + hK (ws.getD p 0))).map (p :: ·) := by
  rw [places, if_pos h, if_pos ⟨h1, h2⟩]
theorem places_bad {ws : List Int} {nx f p : Nat} (h : p < nx) (h1 : ¬ (hOk (ws.getD p 0) = true ∧ p + 1 + hK (ws.getD p 0) ≤ nx)) : places ws nx (f + 1) p = none := by
  rw [places, if_pos h, if_neg h1]
/-- more fuel than is wanted turns nothing. -/
theorem places_fuel {ws : List Int} {nx : Nat} : ∀ (f g p : Nat), nx - p ≤ f → nx - p ≤ g → places ws nx f p = places ws nx g p := by
  intro f
  induction f with
  | zero => intro g p h1 h2; rw [places_end (by omega), places_end (by omega)]
  | succ f ih =>
    intro g p h1 h2
    by_cases hp : p < nx
    · obtain ⟨g', rfl⟩ : ∃ g', g = g' + 1 := ⟨g - 1, by omega⟩
      by_cases hb : hOk (ws.getD p 0) = true ∧ p + 1 + hK (ws.getD p 0) ≤ nx
      · rw [places_go hp hb.1 hb.2, places_go hp hb.1 hb.2, ih g' _ (by omega) (by omega)]
      · rw [places_bad hp hb, places_bad hp hb]
    · rw [places_end hp, places_end hp]
/-- the places of a heap. -/
def placesOf (ws : List Int) (b nx : Nat) : Option (List Nat) := places ws nx (nx - b) b

/-- what places is, seen from the front: each block is within, they ascend. -/
theorem places_in {ws : List Int} {nx : Nat} : ∀ (f p : Nat) (ps : List Nat), places ws nx f p = some ps → ∀ q ∈ ps, p ≤ q ∧ q < nx ∧ hOk (ws.getD q 0) = true ∧ q + 1 + hK (ws.getD q 0) ≤ nx := by
  intro f
  induction f with
  | zero => intro p ps h; simp [places] at h; subst h; simp
  | succ f ih =>
    intro p ps h
    by_cases hp : p < nx
    · by_cases hb : hOk (ws.getD p 0) = true ∧ p + 1 + hK (ws.getD p 0) ≤ nx
      · rw [places_go hp hb.1 hb.2] at h
        obtain ⟨r, hr, rfl⟩ := Option.map_eq_some_iff.1 h
        intro q hq
        rcases List.mem_cons.1 hq with rfl | hq
        · exact ⟨Nat.le_refl _, hp, hb.1, hb.2⟩
        · have := ih _ _ hr q hq
          exact ⟨by omega, this.2⟩
      · rw [places_bad hp hb] at h; cases h
    · rw [places_end hp] at h; cases h; simp
theorem places_sorted {ws : List Int} {nx : Nat} : ∀ (f p : Nat) (ps : List Nat), places ws nx f p = some ps → ps.Pairwise (· < ·) := by
  intro f
  induction f with
  | zero => intro p ps h; simp [places] at h; subst h; simp
  | succ f ih =>
    intro p ps h
    by_cases hp : p < nx
    · by_cases hb : hOk (ws.getD p 0) = true ∧ p + 1 + hK (ws.getD p 0) ≤ nx
      · rw [places_go hp hb.1 hb.2] at h
        obtain ⟨r, hr, rfl⟩ := Option.map_eq_some_iff.1 h
        refine List.pairwise_cons.2 ⟨fun q hq => ?_, ih _ _ hr⟩
        have := places_in _ _ _ hr q hq
        omega
      · rw [places_bad hp hb] at h; cases h
    · rw [places_end hp] at h; cases h; simp

/-- whether a word is an int of a word, or the place of a block. -/
def wordIn (ps : List Nat) (x : Int) : Bool := if x % 2 = 0 then decide (∃ p ∈ ps, (p : Int) = x / 2) else wordB (x / 2)
/-- the kids of a block. -/
def kidsAt (ws : List Int) (p : Nat) : List Int := (ws.drop (p + 1)).take (hK (ws.getD p 0))
def blocksFit (ws : List Int) (ps : List Nat) : Bool := ps.all fun p => (kidsAt ws p).all (wordIn ps)
/-- the shape of a heap. -/
def heapFrame (ws : List Int) (h b n : Int) : Bool := decide (1 ≤ h ∧ h ≤ 3000 ∧ (ws.length : Int) = 2 * h ∧ (b = 0 ∨ b = h) ∧ b ≤ n ∧ n ≤ b + h)
def heapOk (ws : List Int) (h b n : Int) : Bool :=
  heapFrame ws h b n && (match placesOf ws b.toNat n.toNat with | none => false | some ps => blocksFit ws ps)

end Go.Proofs.Ytlkdlcpfcacigaa

/- headed, l17Of: what a header tells. -/
namespace Go.Proofs.Ytlkdlcpfcacigaa
open Go.RowKit
set_option linter.unusedVariables false

/-- what is told of a word that is no header: something, and false. -/
def BadHead (e : Ending) : Prop := ∃ b t k, e = .returned (.tuple #[.bool b, .int .i64 t, .int .i64 k, .bool false])

set_option maxHeartbeats 400000 in
theorem l17Of_any (x : Int) (w : World) (h : 0 ≤ x) (hx : x ≤ 9223372036854775807) :
    Calls Try.prog 55 #[.int .i64 x] w fun e w' => e = .returned (.tuple #[.bool (hFun x), .int .i64 (hTag x), .int .i64 (hKids x)]) ∧ w = w' := by
  have e2 : 0 ≤ x / 2 := by omega
  have e3 : 0 ≤ x / 2 / 2 := by omega
  go_enter Try.func55, Try.ntmps55
  go_wp2
  go_ret3
  exact ⟨rfl, rfl⟩

/-- what is told of a word below 0: something. -/
def SomeHead (e : Ending) : Prop := ∃ b t k, e = .returned (.tuple #[.bool b, .int .i64 t, .int .i64 k])

set_option maxHeartbeats 400000 in
theorem l17Of_neg (x : Int) (w : World) (h : x < 0) (hx : -9223372036854775808 ≤ x) :
    Calls Try.prog 55 #[.int .i64 x] w fun e w' => SomeHead e ∧ w = w' := by
  have e2 : x / 2 < 0 := by omega
  have e3 : x / 2 / 2 < 0 := by omega
  go_enter Try.func55, Try.ntmps55
  go_wp2
  go_ret3
  exact ⟨⟨_, _, _, rfl⟩, rfl⟩

end Go.Proofs.Ytlkdlcpfcacigaa
