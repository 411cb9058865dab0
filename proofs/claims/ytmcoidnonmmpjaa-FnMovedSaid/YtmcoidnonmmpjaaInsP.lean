/- A number put into a row that ascends, in plain Lean; a row that is sorted. Nothing of the program is named here. -/
import Derived.Test.YtmcoidnonmmpjaaMoveP
import Derived.Test.YtmcoidnonmmpjaaWordOk
import Derived.Test.YtmcoidnonmmpjaaShapeP
namespace Go.Proofs.Ytmcoidnonmmpjaa
open Go.RowKit
set_option linter.unusedVariables false

def insI (n : Int) : List Int → List Int
  | [] => [n]
  | x :: xs => if x < n then x :: insI n xs else if x = n then x :: xs else n :: x :: xs
theorem insI_mem {n z : Int} : ∀ {zs : List Int}, z ∈ insI n zs ↔ z = n ∨ z ∈ zs := by
  intro zs
  induction zs with
  | nil => simp [insI]
  | cons x xs ih =>
    unfold insI
    split
    · rw [List.mem_cons, List.mem_cons, ih]
      constructor
      · rintro (h | h | h)
        · exact .inr (.inl h)
        · exact .inl h
        · exact .inr (.inr h)
      · rintro (h | h | h)
        · exact .inr (.inl h)
        · exact .inl h
        · exact .inr (.inr h)
    · split
      · rename_i h
        subst h
        rw [List.mem_cons]
        constructor
        · intro h; exact .inr h
        · rintro (h | h)
          · exact .inl h
          · exact h
      · rw [List.mem_cons]
theorem insI_sorted {n : Int} : ∀ {zs : List Int}, zs.Pairwise (· < ·) → (insI n zs).Pairwise (· < ·) := by
  intro zs
  induction zs with
  | nil => intro _; simp [insI]
  | cons x xs ih =>
    intro h
    obtain ⟨h1, h2⟩ := List.pairwise_cons.1 h
    unfold insI
    split
    · rename_i hx
      refine List.pairwise_cons.2 ⟨fun z hz => ?_, ih h2⟩
      rcases insI_mem.1 hz with rfl | hz
      · exact hx
      · exact h1 z hz
    · split
      · exact h
      · rename_i h3 h4
        refine List.pairwise_cons.2 ⟨fun z hz => ?_, h⟩
        rcases List.mem_cons.1 hz with rfl | hz
        · omega
        · have := h1 z hz; omega
theorem insI_len_le (n : Int) : ∀ zs : List Int, (insI n zs).length ≤ zs.length + 1 := by
  intro zs
  induction zs with
  | nil => simp [insI]
  | cons x xs ih =>
    unfold insI
    split
    · simp only [List.length_cons]; omega
    · split <;> simp
/-- where the walk stands: all before are less. -/
theorem insI_at {n : Int} : ∀ (zs : List Int) (a : Nat), a ≤ zs.length → (∀ j, j < a → zs.getD j 0 < n) → (a < zs.length → n ≤ zs.getD a 0) →
    insI n zs = if a < zs.length ∧ zs.getD a 0 = n then zs else zs.take a ++ n :: zs.drop a := by
  intro zs
  induction zs with
  | nil => intro a ha _ _; simp at ha; subst ha; simp [insI]
  | cons x xs ih =>
    intro a ha h1 h2
    cases a with
    | zero =>
      have h3 := h2 (by simp)
      simp only [List.getD_cons_zero] at h3
      unfold insI
      rw [if_neg (by omega)]
      by_cases he : x = n
      · rw [if_pos he, if_pos ⟨by simp, by simpa using he⟩]
      · rw [if_neg he, if_neg (by simp; exact he)]
        rfl
    | succ a =>
      have h3 := h1 0 (by omega)
      simp only [List.getD_cons_zero] at h3
      unfold insI
      rw [if_pos h3, ih a (by simpa using ha) (fun j hj => by simpa using h1 (j + 1) (by omega)) (fun h => by simpa using h2 (by simpa using h))]
      simp only [List.getD_cons_succ, List.length_cons, Nat.add_lt_add_iff_right, List.take_succ_cons, List.drop_succ_cons, List.cons_append]
      split <;> rfl
theorem sorted_ext : ∀ (xs ys : List Int), xs.Pairwise (· < ·) → ys.Pairwise (· < ·) → (∀ z, z ∈ xs ↔ z ∈ ys) → xs = ys := by
  intro xs
  induction xs with
  | nil =>
    intro ys _ _ h
    cases ys with
    | nil => rfl
    | cons y ys => exact absurd ((h y).2 (List.mem_cons_self ..)) (by simp)
  | cons x xs ih =>
    intro ys hx hy h
    obtain ⟨x1, x2⟩ := List.pairwise_cons.1 hx
    cases ys with
    | nil => exact absurd ((h x).1 (List.mem_cons_self ..)) (by simp)
    | cons y ys =>
      obtain ⟨y1, y2⟩ := List.pairwise_cons.1 hy
      have hxy : x = y := by
        rcases List.mem_cons.1 ((h x).1 (List.mem_cons_self ..)) with e | hm
        · exact e
        · rcases List.mem_cons.1 ((h y).2 (List.mem_cons_self ..)) with e | hm2
          · exact e.symm
          · have := x1 y hm2; have := y1 x hm; omega
      subst hxy
      congr 1
      refine ih ys x2 y2 (fun z => ⟨fun hz => ?_, fun hz => ?_⟩)
      · rcases List.mem_cons.1 ((h z).1 (List.mem_cons_of_mem _ hz)) with e | hm
        · have := x1 z hz; omega
        · exact hm
      · rcases List.mem_cons.1 ((h z).2 (List.mem_cons_of_mem _ hz)) with e | hm
        · have := y1 z hz; omega
        · exact hm
/-- the numbers, put in one by one. -/
def insAll (zs : List Int) : List Int := zs.foldl (fun acc n => insI n acc) []
theorem insAll_step (zs : List Int) (k : Nat) (h : k < zs.length) : insAll (zs.take (k + 1)) = insI (zs.getD k 0) (insAll (zs.take k)) := by
  unfold insAll
  rw [← List.take_append_getElem h, List.foldl_append, List.getD_eq_getElem?_getD, List.getElem?_eq_getElem h]
  rfl
theorem insAll_from : ∀ (zs acc : List Int), acc.Pairwise (· < ·) → (zs.foldl (fun acc n => insI n acc) acc).Pairwise (· < ·) ∧ ∀ z, z ∈ zs.foldl (fun acc n => insI n acc) acc ↔ z ∈ acc ∨ z ∈ zs := by
  intro zs
  induction zs with
  | nil => intro acc h; exact ⟨h, fun z => by simp⟩
  | cons x xs ih =>
    intro acc h
    obtain ⟨h1, h2⟩ := ih (insI x acc) (insI_sorted h)
    refine ⟨h1, fun z => ?_⟩
    rw [List.foldl_cons, h2, insI_mem, List.mem_cons]
    constructor
    · rintro ((h | h) | h)
      · exact .inr (.inl h)
      · exact .inl h
      · exact .inr (.inr h)
    · rintro (h | h | h)
      · exact .inl (.inr h)
      · exact .inl (.inl h)
      · exact .inr h
theorem insAll_sorted (zs : List Int) : (insAll zs).Pairwise (· < ·) := (insAll_from zs [] List.Pairwise.nil).1
theorem insAll_mem (zs : List Int) (z : Int) : z ∈ insAll zs ↔ z ∈ zs := by rw [show insAll zs = zs.foldl (fun acc n => insI n acc) [] from rfl, (insAll_from zs [] List.Pairwise.nil).2]; simp
theorem insAll_len : ∀ (zs acc : List Int), (zs.foldl (fun acc n => insI n acc) acc).length ≤ acc.length + zs.length := by
  intro zs
  induction zs with
  | nil => intro acc; simp
  | cons x xs ih =>
    intro acc
    rw [List.foldl_cons]
    have h1 := ih (insI x acc)
    have h2 := insI_len_le x acc
    simp only [List.length_cons]
    omega
theorem insAll_len_le (zs : List Int) : (insAll zs).length ≤ zs.length := by have := insAll_len zs []; simpa [insAll] using this
theorem nums_nodup {o : List Nat} (h : o.Nodup) : (nums o).Nodup := by
  unfold nums
  rw [List.Nodup, List.pairwise_map]
  exact h.imp (fun {a b} hab e => hab (by omega))
theorem sort_ins {zs : List Int} (h : zs.Nodup) : zs.mergeSort (fun x y => decide (x ≤ y)) = insAll zs := by
  refine sorted_ext _ _ ?_ (insAll_sorted zs) (fun z => ?_)
  · have h1 := List.pairwise_mergeSort (le := fun x y : Int => decide (x ≤ y)) (fun a b c hab hbc => by simp at *; omega) (fun a b => by simp; omega) zs
    have h2 : (zs.mergeSort (fun x y => decide (x ≤ y))).Nodup := (List.mergeSort_perm zs _).nodup_iff.2 h
    have h3 := h1.and h2
    exact h3.imp (fun {a b} hab => by have := hab.1; have := hab.2; simp at *; omega)
  · rw [insAll_mem, List.mem_mergeSort]

/-- the places that are come to, ascending. -/
def reachOf (ws : List Int) (h b n : Int) (rs : List Int) : List Int := if rightOf ws h b n rs then insAll (nums (orderOf ws rs)) else []
theorem reachOf_not {ws : List Int} {h b n : Int} {rs : List Int} (hr : rightOf ws h b n rs = false) : reachOf ws h b n rs = [] := by simp [reachOf, hr]
theorem reachOf_yes {ws : List Int} {h b n : Int} {rs : List Int} (hr : rightOf ws h b n rs = true) : reachOf ws h b n rs = insAll (nums (orderOf ws rs)) := by simp [reachOf, hr]
theorem reach_len (ws : List Int) (h b n : Int) (rs : List Int) : (reachOf ws h b n rs).length ≤ 6000 := by
  cases hr : rightOf ws h b n rs
  · rw [reachOf_not hr]; simp
  · rw [reachOf_yes hr]
    obtain ⟨h', b', n', ps, rfl, rfl, rfl, hR, hx⟩ := Right.ofR hr
    have h1 := insAll_len_le (nums (orderOf ws rs))
    rw [nums_len] at h1
    have h2 := hR.ord_len (order_ok hR hx)
    have h3 := hR.n_le
    omega
theorem insAll_take_len (zs : List Int) (k : Nat) : (insAll (zs.take k)).length ≤ zs.length := by
  have h1 := insAll_len_le (zs.take k)
  rw [List.length_take] at h1
  omega

end Go.Proofs.Ytmcoidnonmmpjaa
