/- A heap that is moved, in plain Lean. Nothing of the program is named here. -/
import Derived.Test.YtmcoidnonmmpjaaMoveP
import Derived.Test.YtmcoidnonmmpjaaAllocP
namespace Go.Proofs.Ytmcoidnonmmpjaa
open Go.RowKit
set_option linter.unusedVariables false

/-- l behind b zeros, and zeros up to N words. -/
def lay (b N : Nat) (l : List Int) : List Int := List.replicate b 0 ++ (l ++ List.replicate (N - b - l.length) 0)
theorem lay_len {b N : Nat} {l : List Int} (h : b + l.length ≤ N) : (lay b N l).length = N := by simp [lay]; omega
theorem lay_nil {b N : Nat} (h : b ≤ N) : lay b N [] = List.replicate N 0 := by
  unfold lay
  rw [List.nil_append, List.replicate_append_replicate]
  congr 1
  simp
  omega
theorem lay_push {b N : Nat} {l ks : List Int} (h : b + (l.length + ks.length) ≤ N) : ov (lay b N l) (b + l.length) ks = lay b N (l ++ ks) := by
  have e : lay b N l = (List.replicate b 0 ++ l) ++ List.replicate (N - b - l.length) 0 := by unfold lay; rw [List.append_assoc]
  have hl : (List.replicate b (0 : Int) ++ l).length = b + l.length := by simp
  unfold ov
  rw [e, List.take_left' hl, List.drop_append, hl, List.drop_eq_nil_of_le (by omega), List.nil_append, List.drop_replicate]
  unfold lay
  rw [List.append_assoc, List.append_assoc, List.length_append]
  congr 4
  omega
theorem lay_set {b N i : Nat} {l : List Int} (h : i < l.length) (x : Int) : (lay b N l).set (b + i) x = lay b N (l.set i x) := by
  unfold lay
  rw [List.set_append_right _ _ (by simp), List.set_append_left _ _ (by simp; omega), List.length_set]
  congr 3
  simp
theorem lay_get {b N i : Nat} {l : List Int} (h : i < l.length) : (lay b N l).getD (b + i) 0 = l.getD i 0 := by
  unfold lay
  rw [List.getD_eq_getElem?_getD, List.getElem?_append_right (by simp), List.getElem?_append_left (by simp; omega), List.getD_eq_getElem?_getD]
  congr 2
  simp
theorem lay_ok {b N : Nat} {l : List Int} (h : intsOk l) : intsOk (lay b N l) := by
  refine intsOk_of fun x hx => ?_
  unfold lay at hx
  rcases List.mem_append.1 hx with h' | h'
  · rw [List.eq_of_mem_replicate h']; omega
  rcases List.mem_append.1 h' with h' | h'
  · exact intsOk_mem h x h'
  · rw [List.eq_of_mem_replicate h']; omega

/-- a block's words; blocks one behind the other. -/
def blk (ws : List Int) (p : Nat) : List Int := ws.getD p 0 :: kidsAt ws p
def raw (ws : List Int) (o : List Nat) : List Int := o.flatMap (blk ws)
/-- where a block comes to lie; a word behind the move; a block behind it. -/
def newAt (ws : List Int) (b : Nat) (o : List Nat) (p : Nat) : Nat := b + (raw ws (o.take (o.idxOf p))).length
def mv (ws : List Int) (b : Nat) (o : List Nat) (x : Int) : Int := if x % 2 = 0 then 2 * (newAt ws b o (x / 2).toNat : Int) else x
def mblk (ws : List Int) (b : Nat) (o : List Nat) (p : Nat) : List Int := ws.getD p 0 :: (kidsAt ws p).map (mv ws b o)
def mvd (ws : List Int) (b : Nat) (o q : List Nat) : List Int := q.flatMap (mblk ws b o)

theorem raw_nil (ws : List Int) : raw ws [] = [] := rfl
theorem raw_append (ws : List Int) (a b : List Nat) : raw ws (a ++ b) = raw ws a ++ raw ws b := by simp [raw]
theorem raw_snoc (ws : List Int) (a : List Nat) (p : Nat) : raw ws (a ++ [p]) = raw ws a ++ blk ws p := by simp [raw]
theorem mblk_len (ws : List Int) (b : Nat) (o : List Nat) (p : Nat) : (mblk ws b o p).length = (blk ws p).length := by simp [mblk, blk]
theorem mvd_len (ws : List Int) (b : Nat) (o : List Nat) : ∀ q : List Nat, (mvd ws b o q).length = (raw ws q).length := by
  intro q
  induction q with
  | nil => rfl
  | cons p q ih =>
    unfold mvd raw at ih ⊢
    rw [List.flatMap_cons, List.flatMap_cons, List.length_append, List.length_append, ih, mblk_len]
theorem mvd_snoc (ws : List Int) (b : Nat) (o q : List Nat) (p : Nat) : mvd ws b o (q ++ [p]) = mvd ws b o q ++ mblk ws b o p := by simp [mvd]
theorem blk_len {ws : List Int} {p : Nat} (h : p + 1 + hK (ws.getD p 0) ≤ ws.length) : (blk ws p).length = 1 + hK (ws.getD p 0) := by
  unfold blk kidsAt
  rw [List.length_cons, List.length_take, List.length_drop]
  omega
theorem blk_pos (ws : List Int) (p : Nat) : 0 < (blk ws p).length := by simp [blk]

/-- all the blocks of a heap, one behind the other, are its words. -/
theorem raw_places {ws : List Int} {nx : Nat} (hnx : nx ≤ ws.length) : ∀ (f p : Nat) (ps : List Nat), places ws nx f p = some ps → p ≤ nx → (raw ws ps).length ≤ nx - p := by
  intro f
  induction f with
  | zero => intro p ps h hp; simp [places] at h; subst h; simp [raw]
  | succ f ih =>
    intro p ps h hp
    by_cases hlt : p < nx
    · by_cases hb : hOk (ws.getD p 0) = true ∧ p + 1 + hK (ws.getD p 0) ≤ nx
      · rw [places_go hlt hb.1 hb.2] at h
        obtain ⟨r, hr, rfl⟩ := Option.map_eq_some_iff.1 h
        have h1 := ih _ _ hr hb.2
        have h2 := blk_len (ws := ws) (p := p) (by omega)
        unfold raw at h1 ⊢
        rw [List.flatMap_cons, List.length_append, h2]
        omega
      · rw [places_bad hlt hb] at h; cases h
    · rw [places_end hlt] at h; cases h; simp [raw]
theorem raw_erase {ws : List Int} : ∀ {ps : List Nat} {a : Nat}, a ∈ ps → (raw ws ps).length = (blk ws a).length + (raw ws (ps.erase a)).length := by
  intro ps
  induction ps with
  | nil => intro a h; cases h
  | cons p ps ih =>
    intro a h
    by_cases hp : p = a
    · subst hp
      rw [List.erase_cons_head]
      simp [raw]
    · rw [List.erase_cons_tail (by simpa using hp)]
      have h1 : a ∈ ps := by rcases List.mem_cons.1 h with h | h; exact absurd h.symm hp; exact h
      have h2 := ih h1
      unfold raw at h2 ⊢
      rw [List.flatMap_cons, List.flatMap_cons, List.length_append, List.length_append, h2]
      omega
theorem raw_sub {ws : List Int} : ∀ (o ps : List Nat), o.Nodup → (∀ p ∈ o, p ∈ ps) → (raw ws o).length ≤ (raw ws ps).length := by
  intro o
  induction o with
  | nil => intro ps _ _; simp [raw]
  | cons a o ih =>
    intro ps hn hs
    obtain ⟨ha, hn⟩ := List.nodup_cons.1 hn
    have h1 : a ∈ ps := hs a (List.mem_cons_self ..)
    have h2 := ih (ps.erase a) hn (fun p hp => (List.mem_erase_of_ne (fun (e : p = a) => ha (e ▸ hp))).2 (hs p (List.mem_cons_of_mem _ hp)))
    have h3 := raw_erase (ws := ws) h1
    unfold raw at h2 h3 ⊢
    rw [List.flatMap_cons, List.length_append]
    omega
theorem Right.raw_le {ws : List Int} {h b n : Nat} {ps o : List Nat} (hR : Right ws h b n ps) (ho : Ordered ps o) : (raw ws o).length ≤ h := by
  have h1 := raw_sub (ws := ws) o ps ho.1 ho.2
  have h2 := raw_places hR.n_le.1 _ _ _ hR.some hR.frame.n0
  have h3 := hR.frame.n1
  omega
theorem raw_take_le (ws : List Int) (o : List Nat) (k : Nat) : (raw ws (o.take k)).length ≤ (raw ws o).length := by
  have h := congrArg (fun l => (raw ws l).length) (List.take_append_drop k o)
  simp only [raw_append, List.length_append] at h
  omega

/-- a header is made of what it tells. -/
theorem hd_of {X : Int} (h : hOk X = true) : hdOf (hFun X) (hTag X) (hK X) = X := by
  obtain ⟨h1, h2, h3, h4⟩ := hOk_true.1 h
  have h5 := hK_cast X
  unfold hdOf
  rw [h5]
  unfold hFun hTag hKids at *
  split
  · rename_i h6; simp at h6; omega
  · rename_i h6; simp at h6; omega

/-- what is met first comes first. -/
theorem idx_pre {S t : List Nat} {p : Nat} (h : p ∈ S) : (S ++ t).idxOf p = S.idxOf p := by rw [List.idxOf_append, if_pos h]
theorem newAt_pre {ws : List Int} {b : Nat} {S t : List Nat} {p : Nat} (h : p ∈ S) : newAt ws b (S ++ t) p = newAt ws b S p := by
  unfold newAt
  have := List.idxOf_lt_length_of_mem h
  rw [idx_pre h, List.take_append_of_le_length (by omega)]
theorem newAt_new {ws : List Int} {b : Nat} {S t : List Nat} {p : Nat} (h : p ∉ S) : newAt ws b (S ++ p :: t) p = b + (raw ws S).length := by
  unfold newAt
  rw [List.idxOf_append, if_neg h, List.idxOf_cons_self, Nat.zero_add, List.take_left]
theorem newAt_le {ws : List Int} {h b n b' : Nat} {ps o : List Nat} (hR : Right ws h b n ps) (ho : Ordered ps o) (p : Nat) : newAt ws b' o p ≤ b' + h := by
  unfold newAt
  have h1 := raw_take_le ws o (o.idxOf p)
  have h2 := hR.raw_le ho
  omega

/-- what Collect tells: the words, the base, the next place, the roots. -/
structure Coll where
  ws : List Int
  base : Int
  next : Int
  roots : List Int
def collectOf (ws : List Int) (h b n : Int) (rs : List Int) : Coll :=
  if rightOf ws h b n rs then
    ⟨lay (h - b).toNat ws.length (mvd ws (h - b).toNat (orderOf ws rs) (orderOf ws rs)), h - b, h - b + (raw ws (orderOf ws rs)).length, rs.map (mv ws (h - b).toNat (orderOf ws rs))⟩
  else ⟨ws, b, n, rs⟩
theorem collect_not {ws : List Int} {h b n : Int} {rs : List Int} (hn : rightOf ws h b n rs = false) : collectOf ws h b n rs = ⟨ws, b, n, rs⟩ := by simp [collectOf, hn]
theorem collect_yes {ws : List Int} {h b n : Nat} {rs : List Int} (hb : b ≤ h) (hr : rightOf ws h b n rs = true) :
    collectOf ws h b n rs = ⟨lay (h - b) ws.length (mvd ws (h - b) (orderOf ws rs) (orderOf ws rs)), ((h - b : Nat) : Int), ((h - b + (raw ws (orderOf ws rs)).length : Nat) : Int), rs.map (mv ws (h - b) (orderOf ws rs))⟩ := by
  unfold collectOf
  rw [if_pos hr, show ((h : Int) - (b : Int)).toNat = h - b by omega]
  congr 1
  · omega
  · omega

end Go.Proofs.Ytmcoidnonmmpjaa
