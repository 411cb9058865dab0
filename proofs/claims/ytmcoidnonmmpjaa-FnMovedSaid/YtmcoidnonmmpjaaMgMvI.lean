import Derived.Test.YtmcoidnonmmpjaaCollP
import Derived.Test.YtmcoidnonmmpjaaMet
import Derived.Test.YtmcoidnonmmpjaaShapeP
/- collect's closure: a word behind the move. -/
namespace Go.Proofs.Ytmcoidnonmmpjaa
open Go.RowKit
set_option linter.unusedVariables false

/-- the places of blocks that are laid one behind the other. -/
def newPl (ws : List Int) (b : Nat) (q : List Nat) : List Nat := (List.range q.length).map fun j => b + (raw ws (q.take j)).length
theorem newPl_len (ws : List Int) (b : Nat) (q : List Nat) : (newPl ws b q).length = q.length := by simp [newPl]
theorem newPl_nil (ws : List Int) (b : Nat) : newPl ws b [] = [] := rfl
theorem newPl_snoc (ws : List Int) (b : Nat) (q : List Nat) (p : Nat) : newPl ws b (q ++ [p]) = newPl ws b q ++ [b + (raw ws q).length] := by
  unfold newPl
  rw [List.length_append, List.length_singleton, List.range_succ, List.map_append]
  congr 1
  · refine List.map_congr_left fun j hj => ?_
    rw [List.take_append_of_le_length (Nat.le_of_lt (List.mem_range.1 hj))]
  · simp
theorem newPl_get {ws : List Int} {b : Nat} {q : List Nat} {j : Nat} (h : j < q.length) : (newPl ws b q)[j]? = some (b + (raw ws (q.take j)).length) := by simp [newPl, h]

set_option maxHeartbeats 800000 in
theorem moved_any {B7 B9 g7 g9 : Nat} (pv nv : Value) (ws : List Int) (b' : Nat) (o ps : List Nat) (x : Int) (N : Nat) (w : World) (k9 : Bx w g9 #[pv]) (k7 : Bx w g7 #[nv]) (rp : Rd B9 .i64 w pv (nums (newPl ws b' o))) (rn : Rd B7 .i64 w nv (numbers o N))
    (hx : wordIn ps x = true) (ho : x % 2 = 0 → (x / 2).toNat ∈ o) (hN : ∀ p ∈ ps, p < N) (hN6 : N ≤ 6000) (hle : ∀ p, newAt ws b' o p ≤ 6000) (hol : o.length ≤ 6000) :
    Calls Try.prog 83 #[.int .i64 x, .pointer (some ⟨g9, 0, none⟩), .pointer (some ⟨g7, 0, none⟩)] w fun e w' => e = .returned (.int .i64 (mv ws b' o x)) ∧ Still w w' := by
  by_cases hev : x % 2 = 0
  · obtain ⟨p, hpp, hpx⟩ := wordIn_ref hx hev
    have hpe : (x / 2).toNat = p := by omega
    have hpo := ho hev
    rw [hpe] at hpo
    have hpN := hN p hpp
    have HX := Lib.hid hpx
    have e1 : (x % 2 == 0) = true := by simp; omega
    have hidx := List.idxOf_lt_length_of_mem hpo
    have hnw : numOf o p = (o.idxOf p : Int) := by unfold numOf; rw [if_pos hpo]
    have hmv : mv ws b' o x = 2 * ((newAt ws b' o p : Nat) : Int) := by unfold mv; rw [if_pos hev, hpe]
    have hna := hle p
    rcases rn with ⟨h', _⟩ | ⟨bn, offn, cn', rfl, _, _, _, hcn⟩
    · have := congrArg List.length h'; rw [numbers_len, List.length_nil] at this; omega
    rcases rp with ⟨h', _⟩ | ⟨bp, offp, cp', rfl, _, _, _, hcp⟩
    · have := congrArg List.length h'; rw [nums_len, newPl_len, List.length_nil] at this; omega
    rw [numbers_len] at hcn k7
    rw [nums_len, newPl_len] at hcp k9
    have c1 := hcn p hpN
    rw [numbers_get hpN, hnw] at c1
    have c2 := hcp (o.idxOf p) hidx
    rw [nums_get, List.getD_eq_getElem?_getD, newPl_get hidx] at c2
    change _ = some (Value.int .i64 ((newAt ws b' o p : Nat) : Int)) at c2
    obtain ⟨i, hi⟩ : ∃ i, o.idxOf p = i := ⟨_, rfl⟩
    obtain ⟨m, hm⟩ : ∃ m, newAt ws b' o p = m := ⟨_, rfl⟩
    rw [hi] at c1 c2 hidx
    rw [hm] at c2 hmv hna
    rw [hmv]
    have hil : (i : Int) < (o.length : Int) := by omega
    have hpi : (p : Int) < (N : Int) := by omega
    have q9 := k9.2.1
    have q7 := k7.2.1
    have HR := Lib.hid (fun (W : World) => (by have := (iWordRef_any x W).mono (fun e w' h => And.intro h.1 h.2.symm); rw [← HX.out] at this; exact this : Calls Try.prog 67 #[.int .i64 x] W _))
    have hrw := fun (W : World) => (iRefWord_any (m : Int) W).mono (fun e w' h => And.intro h.1 h.2.symm)
    rw [show refW (m : Int) = 2 * (m : Int) by unfold refW inB; rw [if_pos (by simp; omega)]] at hrw
    have HW := Lib.hid hrw
    clear k9 k7 hcn hcp hx ho hN hle hpp hpo hpe hnw hmv hi hm hrw hpx
    go_enter Try.func83, Try.ntmps83
    go_wp2_with (go_at_call 65; refine (iIsRef_any _ _).mono ?_; rintro e w' ⟨rfl, rfl⟩)
    go_quiet (first | (go_at_call 67; exact Calls.quiet_of_same (HR.out _)) | (go_at_call 84; exact Calls.quiet_of_same (HW.out _)))
    go_wp2
    go_ret
    exact ⟨rfl, ⟨nq, rfl⟩⟩
  · have e1 : (x % 2 == 0) = false := by simp; omega
    have hmv : mv ws b' o x = x := by unfold mv; rw [if_neg hev]
    rw [hmv]
    clear k9 k7 rp rn hx ho hN hle hmv
    go_enter Try.func83, Try.ntmps83
    go_wp2_with (go_at_call 65; refine (iIsRef_any _ _).mono ?_; rintro e w' ⟨rfl, rfl⟩)
    go_ret
    exact ⟨rfl, Still.refl _⟩

end Go.Proofs.Ytmcoidnonmmpjaa

/- The words of a heap while its blocks' kids are turned, in plain Lean. Nothing of the program is named here. -/
namespace Go.Proofs.Ytmcoidnonmmpjaa
open Go.RowKit
set_option linter.unusedVariables false

/-- two rows in two blocks. -/
def Diff (u v : Value) : Prop := ∀ k, u.ownBlock = some k → v.ownBlock ≠ some k
theorem Diff.of {base base' : Nat} {e e' : TypeId} {sz sz' n n' : Nat} {w w' : World} {u v : Value} {xs ys : List Value} (h : w.ownsRow base e sz u n xs) (h' : w'.ownsRow base' e' sz' v n' ys) (hb : w.heap.size ≤ base') : Diff u v := fun k hk hk' => by
  have h1 := (h.lt k hk).2
  have h2 := (h'.lt k hk').1
  omega
theorem own_diff {u v : Value} (h : Diff u v) : v.ownBlock = none ∨ v.ownBlock ≠ u.ownBlock := by
  rcases hv : v.ownBlock with _ | k
  · exact .inl rfl
  · exact .inr (fun e => h k e.symm hv)
theorem own_diff' {u v : Value} (h : Diff u v) : u.ownBlock = none ∨ u.ownBlock ≠ v.ownBlock := by
  rcases hu : u.ownBlock with _ | k
  · exact .inl rfl
  · exact .inr (fun e => h k hu e.symm)

/-- the first k blocks turned, the others not; and of the next block the first j kids. -/
def mix (ws : List Int) (b : Nat) (o q : List Nat) (k : Nat) : List Int := mvd ws b o (q.take k) ++ raw ws (q.drop k)
def mixB (ws : List Int) (b : Nat) (o : List Nat) (p j : Nat) : List Int := ws.getD p 0 :: (((kidsAt ws p).take j).map (mv ws b o) ++ (kidsAt ws p).drop j)
def mix2 (ws : List Int) (b : Nat) (o q : List Nat) (k p j : Nat) : List Int := mvd ws b o (q.take k) ++ (mixB ws b o p j ++ raw ws (q.drop (k + 1)))
theorem mix_zero (ws : List Int) (b : Nat) (o q : List Nat) : mix ws b o q 0 = raw ws q := by simp [mix, mvd]
theorem mix_all (ws : List Int) (b : Nat) (o q : List Nat) : mix ws b o q q.length = mvd ws b o q := by simp [mix, raw]
theorem mix2_zero {ws : List Int} {b : Nat} {o q : List Nat} {k p : Nat} (h : k < q.length) (hp : q[k] = p) : mix2 ws b o q k p 0 = mix ws b o q k := by
  unfold mix2 mix mixB
  rw [List.drop_eq_getElem_cons h, hp, List.take_zero, List.map_nil, List.nil_append, List.drop_zero]
  simp [raw, blk]
theorem mix2_all {ws : List Int} {b : Nat} {o q : List Nat} {k p : Nat} (h : k < q.length) (hp : q[k] = p) : mix2 ws b o q k p (kidsAt ws p).length = mix ws b o q (k + 1) := by
  unfold mix2 mix mixB
  rw [← List.take_append_getElem h, mvd_snoc, hp, List.take_length, List.drop_length, List.append_nil, List.append_assoc]
  rfl
theorem mixB_len (ws : List Int) (b : Nat) (o : List Nat) (p j : Nat) : (mixB ws b o p j).length = (blk ws p).length := by
  unfold mixB blk
  simp
  omega
theorem mix2_len {ws : List Int} {b : Nat} {o q : List Nat} {k p : Nat} (j : Nat) (h : k < q.length) (hp : q[k] = p) : (mix2 ws b o q k p j).length = (raw ws q).length := by
  have h1 : raw ws q = raw ws (q.take k) ++ (blk ws p ++ raw ws (q.drop (k + 1))) := by
    have h2 : q = q.take k ++ (p :: q.drop (k + 1)) := by rw [← hp, ← List.drop_eq_getElem_cons h, List.take_append_drop]
    conv => lhs; rw [h2]
    rw [raw_append]
    rfl
  rw [h1]
  unfold mix2
  rw [List.length_append, List.length_append, List.length_append, List.length_append, mvd_len, mixB_len]
theorem mix_hd {ws : List Int} {b : Nat} {o q : List Nat} {k p : Nat} (h : k < q.length) (hp : q[k] = p) : (mix ws b o q k).getD (raw ws (q.take k)).length 0 = ws.getD p 0 := by
  rw [← mix2_zero h hp]
  unfold mix2 mixB
  rw [List.getD_eq_getElem?_getD, List.getElem?_append_right (by rw [mvd_len]; exact Nat.le_refl _), mvd_len]
  simp
theorem mix2_get {ws : List Int} {b : Nat} {o q : List Nat} {k p j : Nat} (hj : j < (kidsAt ws p).length) : (mix2 ws b o q k p j)[(raw ws (q.take k)).length + 1 + j]? = some ((kidsAt ws p).getD j 0) := by
  unfold mix2 mixB
  rw [List.getElem?_append_right (by rw [mvd_len]; omega), mvd_len, show (raw ws (q.take k)).length + 1 + j - (raw ws (q.take k)).length = j + 1 by omega, List.cons_append, List.getElem?_cons_succ, List.append_assoc,
    List.getElem?_append_right (by simp; omega), List.length_map, List.length_take, Nat.min_eq_left (by omega), Nat.sub_self, List.getElem?_append_left (by simp; omega), List.getElem?_drop, Nat.add_zero, List.getD_eq_getElem?_getD, List.getElem?_eq_getElem hj]
  rfl
theorem mix2_set {ws : List Int} {b : Nat} {o q : List Nat} {k p j : Nat} (hj : j < (kidsAt ws p).length) : (mix2 ws b o q k p j).set ((raw ws (q.take k)).length + 1 + j) (mv ws b o ((kidsAt ws p).getD j 0)) = mix2 ws b o q k p (j + 1) := by
  unfold mix2 mixB
  have h1 : ((kidsAt ws p).take j).length = j := by simp; omega
  have h2 : (kidsAt ws p).getD j 0 = (kidsAt ws p)[j] := by simp [List.getD_eq_getElem?_getD, hj]
  rw [List.set_append_right _ _ (by rw [mvd_len]; omega), mvd_len, show (raw ws (q.take k)).length + 1 + j - (raw ws (q.take k)).length = j + 1 by omega, List.cons_append, List.set_cons_succ, List.append_assoc,
    List.set_append_right _ _ (by simp; omega), List.length_map, h1, Nat.sub_self, List.drop_eq_getElem_cons hj, List.cons_append, List.set_cons_zero, h2, ← List.take_append_getElem hj, List.map_append]
  simp
theorem mix2_push {ws : List Int} {b : Nat} {o q : List Nat} {k p j r : Nat} (h : k < q.length) : mix2 ws b o (q ++ [r]) k p j = mix2 ws b o q k p j ++ blk ws r := by
  unfold mix2
  rw [List.take_append_of_le_length (by omega), List.drop_append_of_le_length (by omega), raw_snoc, List.append_assoc, List.append_assoc]
theorem mv_ok {ws : List Int} {h b n b' : Nat} {ps o : List Nat} (hR : Right ws h b n ps) (ho : Ordered ps o) (hb : b' + h ≤ 6000) {x : Int} (hx : -9223372036854775808 ≤ x ∧ x ≤ 9223372036854775807) : -9223372036854775808 ≤ mv ws b' o x ∧ mv ws b' o x ≤ 9223372036854775807 := by
  unfold mv
  split
  · have := newAt_le (b' := b') hR ho (x / 2).toNat
    omega
  · exact hx
theorem blk_ok {ws : List Int} (hw : intsOk ws) (p : Nat) : intsOk (blk ws p) := by
  refine intsOk_of fun x hx => ?_
  unfold blk at hx
  rcases List.mem_cons.1 hx with rfl | hx
  · exact hw p
  · exact intsOk_mem hw x (List.mem_of_mem_drop (List.mem_of_mem_take hx))
theorem raw_ok {ws : List Int} (hw : intsOk ws) (o : List Nat) : intsOk (raw ws o) := by
  refine intsOk_of fun x hx => ?_
  unfold raw at hx
  obtain ⟨p, _, h⟩ := List.mem_flatMap.1 hx
  exact intsOk_mem (blk_ok hw p) x h
theorem mvd_ok {ws : List Int} {h b n b' : Nat} {ps o : List Nat} (hR : Right ws h b n ps) (ho : Ordered ps o) (hb : b' + h ≤ 6000) (hw : intsOk ws) (q : List Nat) : intsOk (mvd ws b' o q) := by
  refine intsOk_of fun x hx => ?_
  unfold mvd at hx
  obtain ⟨p, _, h⟩ := List.mem_flatMap.1 hx
  unfold mblk at h
  rcases List.mem_cons.1 h with rfl | h
  · exact hw p
  · obtain ⟨y, hy, rfl⟩ := List.mem_map.1 h
    exact mv_ok hR ho hb (intsOk_mem hw y (List.mem_of_mem_drop (List.mem_of_mem_take hy)))
theorem mix_ok {ws : List Int} {h b n b' : Nat} {ps o : List Nat} (hR : Right ws h b n ps) (ho : Ordered ps o) (hb : b' + h ≤ 6000) (hw : intsOk ws) (q : List Nat) (k : Nat) : intsOk (mix ws b' o q k) := by
  refine intsOk_of fun x hx => ?_
  unfold mix at hx
  rcases List.mem_append.1 hx with h | h
  · exact intsOk_mem (mvd_ok hR ho hb hw _) x h
  · exact intsOk_mem (raw_ok hw _) x h

end Go.Proofs.Ytmcoidnonmmpjaa
