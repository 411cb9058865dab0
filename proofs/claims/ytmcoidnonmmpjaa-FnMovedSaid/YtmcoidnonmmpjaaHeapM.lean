/- A heap in plain Lean: headers, the places of blocks, what a right heap is. Nothing of the program is named here. -/
import Derived.Test.YtmcoidnonmmpjaaLib
namespace Go.Proofs.Ytmcoidnonmmpjaa
set_option linter.unusedVariables false

def hFun (x : Int) : Bool := x / 2 % 2 == 1
def hTag (x : Int) : Int := x / 2 / 2 / 64
def hKids (x : Int) : Int := x / 2 / 2 % 64
/-- a header. -/
def hOk (x : Int) : Bool := decide (x % 2 = 1 ∧ 0 ≤ x ∧ hTag x ≤ 3000 ∧ hKids x ≤ 20)
theorem hOk_true {x : Int} : hOk x = true ↔ x % 2 = 1 ∧ 0 ≤ x ∧ hTag x ≤ 3000 ∧ hKids x ≤ 20 := by simp [hOk]
theorem hOk_false {x : Int} : hOk x = false ↔ ¬ (x % 2 = 1 ∧ 0 ≤ x ∧ hTag x ≤ 3000 ∧ hKids x ≤ 20) := by rw [← hOk_true]; simp
def hK (x : Int) : Nat := (hKids x).toNat
theorem hKids_nonneg (x : Int) : 0 ≤ hKids x ∧ hKids x < 64 := by unfold hKids; omega
theorem hK_cast (x : Int) : (hK x : Int) = hKids x := by have := hKids_nonneg x; unfold hK; omega

/-- the places of blocks from a place on; none: they do not fit. -/
def places (ws : List Int) (nx : Nat) : Nat → Nat → Option (List Nat)
  | 0, _ => some []
  | f + 1, p => if p < nx then (if hOk (ws.getD p 0) = true ∧ p + 1 + hK (ws.getD p 0) ≤ nx then (places ws nx f (p + 1 + hK (ws.getD p 0))).map (p :: ·) else none) else some []
theorem places_end {ws : List Int} {nx f p : Nat} (h : ¬ p < nx) : places ws nx f p = some [] := by
  cases f
  · rfl
  · rw [places, if_neg h]
theorem places_go {ws : List Int} {nx f p : Nat} (h : p < nx) (h1 : hOk (ws.getD p 0) = true) (h2 : p + 1 + hK (ws.getD p 0) ≤ nx) : places ws nx (f + 1) p = (places ws nx f (p + 1 + hK (ws.getD p 0))).map (p :: ·) := by
  rw [places, if_pos h, if_pos ⟨h1, h2⟩]
theorem places_bad {ws : List Int} {nx f p : Nat} (h : p < nx) (h1 : ¬ (hOk (ws.getD p 0) = true ∧ p + 1 + hK (ws.getD p 0) ≤ nx)) : places ws nx (f + 1) p = none := by
  rw [places, if_pos h, if_neg h1]
/-- more fuel than is wanted turns nothing. -/
theorem places_fuel {ws : List Int} {nx : Nat} : ∀ (f g p : Nat), nx - p ≤ f → nx - p ≤ g → places ws nx f p = places ws nx g p := by
  intro f
  induction f with
  | zero => intro g p h1 h2; rw [places_end (by omega), places_end (by omega)]
  | succ f ih =>
    intro g p h1 h2
    by_cases hp : p < nx
    · obtain ⟨g', rfl⟩ : ∃ g', g = g' + 1 := ⟨g - 1, by omega⟩
      by_cases hb : hOk (ws.getD p 0) = true ∧ p + 1 + hK (ws.getD p 0) ≤ nx
      · rw [places_go hp hb.1 hb.2, places_go hp hb.1 hb.2, ih g' _ (by omega) (by omega)]
      · rw [places_bad hp hb, places_bad hp hb]
    · rw [places_end hp, places_end hp]
/-- the places of a heap. -/
def placesOf (ws : List Int) (b nx : Nat) : Option (List Nat) := places ws nx (nx - b) b

/-- what places is, seen from the front: each block is within, they ascend. -/
theorem places_in {ws : List Int} {nx : Nat} : ∀ (f p : Nat) (ps : List Nat), places ws nx f p = some ps → ∀ q ∈ ps, p ≤ q ∧ q < nx ∧ hOk (ws.getD q 0) = true ∧ q + 1 + hK (ws.getD q 0) ≤ nx := by
  intro f
  induction f with
  | zero => intro p ps h; simp [places] at h; subst h; simp
  | succ f ih =>
    intro p ps h
    by_cases hp : p < nx
    · by_cases hb : hOk (ws.getD p 0) = true ∧ p + 1 + hK (ws.getD p 0) ≤ nx
      · rw [places_go hp hb.1 hb.2] at h
        obtain ⟨r, hr, rfl⟩ := Option.map_eq_some_iff.1 h
        intro q hq
        rcases List.mem_cons.1 hq with rfl | hq
        · exact ⟨Nat.le_refl _, hp, hb.1, hb.2⟩
        · have := ih _ _ hr q hq
          exact ⟨by omega, this.2⟩
      · rw [places_bad hp hb] at h; cases h
    · rw [places_end hp] at h; cases h; simp
theorem places_sorted {ws : List Int} {nx : Nat} : ∀ (f p : Nat) (ps : List Nat), places ws nx f p = some ps → ps.Pairwise (· < ·) := by
  intro f
  induction f with
  | zero => intro p ps h; simp [places] at h; subst h; simp
  | succ f ih =>
    intro p ps h
    by_cases hp : p < nx
    · by_cases hb : hOk (ws.getD p 0) = true ∧ p + 1 + hK (ws.getD p 0) ≤ nx
      · rw [places_go hp hb.1 hb.2] at h
        obtain ⟨r, hr, rfl⟩ := Option.map_eq_some_iff.1 h
        refine List.pairwise_cons.2 ⟨fun q hq => ?_, ih _ _ hr⟩
        have := places_in _ _ _ hr q hq
        omega
      · rw [places_bad hp hb] at h; cases h
    · rw [places_end hp] at h; cases h; simp

/-- whether a word is an int of a word, or the place of a block. -/
def wordIn (ps : List Nat) (x : Int) : Bool := if x % 2 = 0 then decide (∃ p ∈ ps, (p : Int) = x / 2) else wordB (x / 2)
/-- the kids of a block. -/
def kidsAt (ws : List Int) (p : Nat) : List Int := (ws.drop (p + 1)).take (hK (ws.getD p 0))
def blocksFit (ws : List Int) (ps : List Nat) : Bool := ps.all fun p => (kidsAt ws p).all (wordIn ps)
/-- the shape of a heap. -/
def heapFrame (ws : List Int) (h b n : Int) : Bool := decide (1 ≤ h ∧ h ≤ 3000 ∧ (ws.length : Int) = 2 * h ∧ (b = 0 ∨ b = h) ∧ b ≤ n ∧ n ≤ b + h)
def heapOk (ws : List Int) (h b n : Int) : Bool :=
  heapFrame ws h b n && (match placesOf ws b.toNat n.toNat with | none => false | some ps => blocksFit ws ps)

end Go.Proofs.Ytmcoidnonmmpjaa
