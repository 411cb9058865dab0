import Derived.Test.YtlkdlcpfcacigaaMgBlockAt
import Derived.Test.YtlkdlcpfcacigaaMgFind
/- What is come to from roots, in plain Lean. Nothing of the program is named here. -/
namespace Go.Proofs.Ytlkdlcpfcacigaa
open Go.RowKit
set_option linter.unusedVariables false

/-- whether a heap and roots are right. -/
def rightOf (ws : List Int) (h b n : Int) (rs : List Int) : Bool :=
  heapOk ws h b n && (match placesOf ws b.toNat n.toNat with | none => false | some ps => rs.all (wordIn ps))
/-- a word is seen. -/
def seeW (o : List Nat) (x : Int) : List Nat := if x % 2 = 0 then (if (x / 2).toNat ∈ o then o else o ++ [(x / 2).toNat]) else o
def seeL (o : List Nat) (xs : List Int) : List Nat := xs.foldl seeW o
/-- all that is come to from the blocks o, of which the first i were gone through. -/
def bfs (ws : List Int) : Nat → Nat → List Nat → List Nat
  | 0, _, o => o
  | f + 1, i, o => if i < o.length then bfs ws f (i + 1) (seeL o (kidsAt ws (o.getD i 0))) else o
def orderOf (ws : List Int) (rs : List Int) : List Nat := bfs ws ws.length 0 (seeL [] rs)
theorem bfs_go {ws : List Int} {f i : Nat} {o : List Nat} (h : i < o.length) : bfs ws (f + 1) i o = bfs ws f (i + 1) (seeL o (kidsAt ws (o.getD i 0))) := by rw [bfs, if_pos h]
theorem bfs_end {ws : List Int} {f i : Nat} {o : List Nat} (h : ¬ i < o.length) : bfs ws f i o = o := by
  cases f
  · rfl
  · rw [bfs, if_neg h]

/-- places of blocks, none twice. -/
def Ordered (ps o : List Nat) : Prop := o.Nodup ∧ ∀ p ∈ o, p ∈ ps
theorem nodup_len : ∀ (o ps : List Nat), o.Nodup → (∀ p ∈ o, p ∈ ps) → o.length ≤ ps.length := by
  intro o
  induction o with
  | nil => intro ps _ _; simp
  | cons a o ih =>
    intro ps hn hs
    obtain ⟨ha, hn⟩ := List.nodup_cons.1 hn
    have h1 : a ∈ ps := hs a (List.mem_cons_self ..)
    have h2 := ih (ps.erase a) hn (fun p hp => (List.mem_erase_of_ne (fun (e : p = a) => ha (e ▸ hp))).2 (hs p (List.mem_cons_of_mem _ hp)))
    rw [List.length_erase_of_mem h1] at h2
    have h3 : 0 < ps.length := List.length_pos_of_mem h1
    simp only [List.length_cons]
    omega
theorem sorted_len : ∀ (ps : List Nat) (a b : Nat), ps.Pairwise (· < ·) → (∀ p ∈ ps, a ≤ p ∧ p < b) → ps.length ≤ b - a := by
  intro ps
  induction ps with
  | nil => intro a b _ _; simp
  | cons p ps ih =>
    intro a b hs hb
    obtain ⟨h1, h2⟩ := List.pairwise_cons.1 hs
    have h3 := hb p (List.mem_cons_self ..)
    have h4 := ih (p + 1) b h2 (fun q hq => ⟨h1 q hq, (hb q (List.mem_cons_of_mem _ hq)).2⟩)
    simp only [List.length_cons]
    omega

theorem wordIn_ref {ps : List Nat} {x : Int} (h : wordIn ps x = true) (he : x % 2 = 0) : ∃ p ∈ ps, (p : Int) = x / 2 := by
  unfold wordIn at h
  rw [if_pos he] at h
  simpa using h
theorem seeW_ok {ps o : List Nat} {x : Int} (h : Ordered ps o) (hx : wordIn ps x = true) : Ordered ps (seeW o x) := by
  unfold seeW
  split
  · rename_i he
    obtain ⟨p, hp, hpx⟩ := wordIn_ref hx he
    split
    · exact h
    · rename_i hn
      have e : (x / 2).toNat = p := by omega
      rw [e] at hn ⊢
      refine ⟨List.nodup_append.2 ⟨h.1, by simp, ?_⟩, fun q hq => ?_⟩
      · intro a ha b hb
        rw [List.mem_singleton] at hb
        subst hb
        exact fun e => hn (e ▸ ha)
      · rcases List.mem_append.1 hq with hq | hq
        · exact h.2 q hq
        · rw [List.mem_singleton] at hq; rw [hq]; exact hp
  · exact h
theorem seeL_ok {ps : List Nat} : ∀ {xs : List Int} {o : List Nat}, Ordered ps o → xs.all (wordIn ps) = true → Ordered ps (seeL o xs) := by
  intro xs
  induction xs with
  | nil => intro o h _; exact h
  | cons x xs ih =>
    intro o h hx
    rw [List.all_cons, Bool.and_eq_true] at hx
    exact ih (seeW_ok h hx.1) hx.2
theorem seeL_take {o : List Nat} {xs : List Int} {k : Nat} (h : k < xs.length) : seeL o (xs.take (k + 1)) = seeW (seeL o (xs.take k)) (xs.getD k 0) := by
  unfold seeL
  rw [← List.take_append_getElem h, List.foldl_append, List.getD_eq_getElem?_getD, List.getElem?_eq_getElem h]
  rfl
theorem seeL_nil (o : List Nat) : seeL o [] = o := rfl
theorem all_take {ps : List Nat} {xs : List Int} (k : Nat) (h : xs.all (wordIn ps) = true) : (xs.take k).all (wordIn ps) = true := by
  rw [List.all_eq_true] at h ⊢
  exact fun x hx => h x (List.mem_of_mem_take hx)
theorem all_get {ps : List Nat} {xs : List Int} {k : Nat} (h : xs.all (wordIn ps) = true) (hk : k < xs.length) : wordIn ps (xs.getD k 0) = true := by
  rw [List.all_eq_true] at h
  rw [List.getD_eq_getElem?_getD, List.getElem?_eq_getElem hk]
  exact h _ (List.getElem_mem hk)

theorem seeW_len (o : List Nat) (x : Int) : o.length ≤ (seeW o x).length := by
  unfold seeW
  split
  · split
    · exact Nat.le_refl _
    · simp
  · exact Nat.le_refl _
theorem seeL_len : ∀ (xs : List Int) (o : List Nat), o.length ≤ (seeL o xs).length := by
  intro xs
  induction xs with
  | nil => intro o; exact Nat.le_refl _
  | cons x xs ih => intro o; exact Nat.le_trans (seeW_len o x) (ih (seeW o x))
theorem seeL_grow {o : List Nat} {xs : List Int} {i : Nat} (h : i < o.length) : i + 1 ≤ (seeL o xs).length := Nat.le_trans h (seeL_len xs o)
theorem seeL_pre : ∀ (xs : List Int) (o : List Nat), ∃ t, seeL o xs = o ++ t := by
  intro xs
  induction xs with
  | nil => intro o; exact ⟨[], by simp [seeL]⟩
  | cons x xs ih =>
    intro o
    obtain ⟨t, ht⟩ := ih (seeW o x)
    have h1 : seeL o (x :: xs) = seeL (seeW o x) xs := rfl
    unfold seeW at ht h1
    split at ht
    · split at ht
      · rename_i h2 h3; rw [if_pos h2, if_pos h3] at h1; exact ⟨t, by rw [h1, ht]⟩
      · rename_i h2 h3; rw [if_pos h2, if_neg h3] at h1; exact ⟨_, by rw [h1, ht, List.append_assoc]⟩
    · rename_i h2; rw [if_neg h2] at h1; exact ⟨t, by rw [h1, ht]⟩
theorem seeL_at {o : List Nat} {xs : List Int} {k : Nat} (h : k < o.length) : (seeL o xs).getD k 0 = o.getD k 0 := by
  obtain ⟨t, ht⟩ := seeL_pre xs o
  rw [ht, List.getD_eq_getElem?_getD, List.getElem?_append_left h, List.getD_eq_getElem?_getD]
theorem kids_get {ws : List Int} {p j : Nat} (h : j < hK (ws.getD p 0)) : (kidsAt ws p).getD j 0 = ws.getD (p + (j + 1)) 0 := by
  unfold kidsAt
  rw [take_drop_get _ _ _ _ h, show p + 1 + j = p + (j + 1) by omega]
/-- which one a place is among o; -1: none. -/
def numOf (o : List Nat) (p : Nat) : Int := if p ∈ o then (o.idxOf p : Int) else -1
def numbers (o : List Nat) (N : Nat) : List Int := (List.range N).map (numOf o)
theorem numbers_len (o : List Nat) (N : Nat) : (numbers o N).length = N := by simp [numbers]
theorem numbers_get {o : List Nat} {N p : Nat} (h : p < N) : (numbers o N).getD p 0 = numOf o p := by simp [numbers, List.getD, h]
theorem numbers_nil (N : Nat) : numbers [] N = List.replicate N (-1) := by
  refine List.ext_getElem (by simp [numbers]) fun i h1 h2 => ?_
  simp [numbers, numOf]
theorem numOf_old {o : List Nat} {p q : Nat} (h : q ≠ p) : numOf (o ++ [p]) q = numOf o q := by
  unfold numOf
  by_cases hq : q ∈ o
  · rw [if_pos (List.mem_append_left _ hq), if_pos hq, List.idxOf_append, if_pos hq]
  · rw [if_neg (by simp [hq, h]), if_neg hq]
theorem numOf_new {o : List Nat} {p : Nat} (h : p ∉ o) : numOf (o ++ [p]) p = o.length := by
  unfold numOf
  rw [if_pos (by simp), List.idxOf_append, if_neg h]
  simp
theorem numbers_push {o : List Nat} {N p : Nat} (h : p ∉ o) (hp : p < N) : (numbers o N).set p o.length = numbers (o ++ [p]) N := by
  refine List.ext_getElem (by simp [numbers]) fun i h1 h2 => ?_
  rw [List.getElem_set]
  split
  · rename_i e
    subst e
    simp [numbers, numOf_new h]
  · rename_i e
    simp [numbers, numOf_old (fun h => e h.symm)]
theorem numOf_in {o : List Nat} {p : Nat} (h : p ∈ o) : 0 ≤ numOf o p ∧ numOf o p < o.length := by
  unfold numOf
  rw [if_pos h]
  exact ⟨by omega, by have := List.idxOf_lt_length_of_mem h; omega⟩
theorem numOf_out {o : List Nat} {p : Nat} (h : p ∉ o) : numOf o p = -1 := by unfold numOf; rw [if_neg h]

/-- a right heap: its places, and what is known of each. -/
structure Right (ws : List Int) (h b n : Nat) (ps : List Nat) : Prop where
  frame : Frame ws h b n
  some : placesOf ws b n = some ps
  fit : blocksFit ws ps = true
theorem Right.of {ws : List Int} {h b n : Int} (hok : heapOk ws h b n = true) : ∃ h' b' n' : Nat, ∃ ps, h = h' ∧ b = b' ∧ n = n' ∧ Right ws h' b' n' ps := by
  obtain ⟨h', b', n', rfl, rfl, rfl, hF⟩ := heapFrame_true (heapOk_frame hok)
  obtain ⟨ps, hp⟩ := heapOk_some hok
  refine ⟨h', b', n', ps, rfl, rfl, rfl, hF, hp, ?_⟩
  rw [heapOk_places (heapOk_frame hok) hp] at hok
  exact hok
theorem Right.at_ {ws : List Int} {h b n p : Nat} {ps : List Nat} (hR : Right ws h b n ps) (hp : p ∈ ps) : b ≤ p ∧ p < n ∧ hOk (ws.getD p 0) = true ∧ p + 1 + hK (ws.getD p 0) ≤ n ∧ (kidsAt ws p).all (wordIn ps) = true := by
  obtain ⟨h1, h2, h3, h4⟩ := places_in _ _ _ hR.some p hp
  refine ⟨h1, h2, h3, h4, ?_⟩
  have := hR.fit
  unfold blocksFit at this
  rw [List.all_eq_true] at this
  exact this p hp
theorem Right.n_le {ws : List Int} {h b n : Nat} {ps : List Nat} (hR : Right ws h b n ps) : n ≤ ws.length ∧ ws.length ≤ 6000 := by
  have h1 := hR.frame.len
  have h2 := hR.frame.base
  have h3 := hR.frame.n1
  have h4 := hR.frame.h1
  omega
theorem Right.sorted {ws : List Int} {h b n : Nat} {ps : List Nat} (hR : Right ws h b n ps) : ps.Pairwise (· < ·) := places_sorted _ _ _ hR.some
theorem Right.len {ws : List Int} {h b n : Nat} {ps : List Nat} (hR : Right ws h b n ps) : ps.length ≤ n - b := sorted_len ps b n hR.sorted (fun p hp => ⟨(hR.at_ hp).1, (hR.at_ hp).2.1⟩)
theorem Right.ord_len {ws : List Int} {h b n : Nat} {ps o : List Nat} (hR : Right ws h b n ps) (ho : Ordered ps o) : o.length ≤ ws.length := by
  have h1 := nodup_len o ps ho.1 ho.2
  have h2 := hR.len
  have h3 := hR.n_le
  omega
theorem Right.see {ws : List Int} {h b n : Nat} {ps o : List Nat} (hR : Right ws h b n ps) (ho : Ordered ps o) {i : Nat} (hi : i < o.length) : Ordered ps (seeL o (kidsAt ws (o.getD i 0))) :=
  seeL_ok ho (hR.at_ (ho.2 _ (get_mem hi))).2.2.2.2
theorem ordered_nil (ps : List Nat) : Ordered ps [] := ⟨List.nodup_nil, by simp⟩
theorem rightOf_heap {ws : List Int} {h b n : Int} {rs : List Int} (hr : rightOf ws h b n rs = true) : heapOk ws h b n = true := by
  unfold rightOf at hr
  rw [Bool.and_eq_true] at hr
  exact hr.1
theorem rightOf_not {ws : List Int} {h b n : Int} {rs : List Int} (hr : heapOk ws h b n = false) : rightOf ws h b n rs = false := by simp [rightOf, hr]
theorem rightOf_at {ws : List Int} {h b n : Nat} {rs : List Int} {ps : List Nat} (hok : heapOk ws h b n = true) (hp : placesOf ws b n = some ps) : rightOf ws h b n rs = rs.all (wordIn ps) := by simp [rightOf, hok, hp]
/-- what is come to is in order. -/
theorem bfs_ok {ws : List Int} {h b n : Nat} {ps : List Nat} (hR : Right ws h b n ps) : ∀ (f i : Nat) (o : List Nat), Ordered ps o → Ordered ps (bfs ws f i o) := by
  intro f
  induction f with
  | zero => intro i o h; exact h
  | succ f ih =>
    intro i o ho
    by_cases hi : i < o.length
    · rw [bfs_go hi]; exact ih _ _ (hR.see ho hi)
    · rw [bfs_end hi]; exact ho

end Go.Proofs.Ytlkdlcpfcacigaa

/- rootsOk, l18Right: whether a heap and roots are right. -/
namespace Go.Proofs.Ytlkdlcpfcacigaa
open Go.RowKit
set_option linter.unusedVariables false

end Go.Proofs.Ytlkdlcpfcacigaa
