/- A heap as it is shown, in plain Lean. Nothing of the program is named here. -/
import Derived.Test.YtmcoidnonmmpjaaMoveP
import Derived.Test.YtmcoidnonmmpjaaDigP
namespace Go.Proofs.Ytmcoidnonmmpjaa
open Go.RowKit
set_option linter.unusedVariables false

def wordTxt (o : List Nat) (x : Int) : List UInt8 := if x % 2 = 0 then [32, 64] ++ digL (numOf o (x / 2).toNat) else [32] ++ digL (x / 2)
def wordsTxt (o : List Nat) (xs : List Int) : List UInt8 := xs.flatMap (wordTxt o)
def kindTxt (X : Int) : List UInt8 := if hFun X then [102, 117, 110, 32] else [99, 111, 110, 32]
def blockTxt (ws : List Int) (o : List Nat) (p : Nat) : List UInt8 := kindTxt (ws.getD p 0) ++ digL (hTag (ws.getD p 0)) ++ (wordsTxt o (kidsAt ws p) ++ [10])
def shapeL (ws : List Int) (o : List Nat) (rs : List Int) : List UInt8 := (wordsTxt o rs ++ [10]) ++ o.flatMap (blockTxt ws o)
def shapeOf (ws : List Int) (h b n : Int) (rs : List Int) : ByteArray := if rightOf ws h b n rs then st (shapeL ws (orderOf ws rs) rs) else st []

theorem wordTxt_len (o : List Nat) (x : Int) : (wordTxt o x).length ≤ 23 := by
  unfold wordTxt
  split
  · have := digL_len (numOf o (x / 2).toNat); simp only [List.length_append, List.length_cons, List.length_nil]; omega
  · have := digL_len (x / 2); simp only [List.length_append, List.length_cons, List.length_nil]; omega
theorem flatMap_len {α : Type} {f : α → List UInt8} {m : Nat} (h : ∀ x, (f x).length ≤ m) : ∀ xs : List α, (xs.flatMap f).length ≤ m * xs.length := by
  intro xs
  induction xs with
  | nil => simp
  | cons x xs ih =>
    rw [List.flatMap_cons, List.length_append, List.length_cons, Nat.mul_succ]
    have := h x
    omega
theorem wordsTxt_len (o : List Nat) (xs : List Int) : (wordsTxt o xs).length ≤ 23 * xs.length := flatMap_len (wordTxt_len o) xs
theorem kindTxt_len (X : Int) : (kindTxt X).length = 4 := by unfold kindTxt; split <;> rfl
theorem blockTxt_len (ws : List Int) (o : List Nat) (p : Nat) : (blockTxt ws o p).length ≤ 1500 := by
  unfold blockTxt
  have h1 := wordsTxt_len o (kidsAt ws p)
  have h2 := kidsAt_le ws p
  have h3 := digL_len (hTag (ws.getD p 0))
  have h4 := kindTxt_len (ws.getD p 0)
  simp only [List.length_append, List.length_cons, List.length_nil]
  omega
theorem flatMap_take {α : Type} (f : α → List UInt8) (d : α) (xs : List α) (k : Nat) (h : k < xs.length) : (xs.take (k + 1)).flatMap f = (xs.take k).flatMap f ++ f (xs.getD k d) := by
  rw [← List.take_append_getElem h, List.flatMap_append, List.getD_eq_getElem?_getD, List.getElem?_eq_getElem h]
  simp
theorem take_len_le {α : Type} (xs : List α) (k : Nat) : (xs.take k).length ≤ xs.length := by rw [List.length_take]; omega

/-- all places among words are in o. -/
def Cl (o : List Nat) (xs : List Int) : Prop := ∀ x ∈ xs, x % 2 = 0 → (x / 2).toNat ∈ o
theorem Cl.mono {o : List Nat} {xs : List Int} (h : Cl o xs) (t : List Nat) : Cl (o ++ t) xs := fun x hx he => List.mem_append_left _ (h x hx he)
theorem seeW_mem {o : List Nat} {x : Int} (h : x % 2 = 0) : (x / 2).toNat ∈ seeW o x := by
  unfold seeW
  rw [if_pos h]
  split
  · assumption
  · simp
theorem seeL_mem : ∀ (xs : List Int) (o : List Nat), Cl (seeL o xs) xs := by
  intro xs
  induction xs with
  | nil => intro o x hx; cases hx
  | cons y xs ih =>
    intro o x hx he
    show (x / 2).toNat ∈ seeL (seeW o y) xs
    rcases List.mem_cons.1 hx with rfl | hx
    · obtain ⟨t, ht⟩ := seeL_pre xs (seeW o x)
      rw [ht]
      exact List.mem_append_left _ (seeW_mem he)
    · exact ih _ x hx he
theorem bfs_pre {ws : List Int} : ∀ (f i : Nat) (o : List Nat), ∃ t, bfs ws f i o = o ++ t := by
  intro f
  induction f with
  | zero => intro i o; exact ⟨[], by simp [bfs]⟩
  | succ f ih =>
    intro i o
    by_cases hi : i < o.length
    · rw [bfs_go hi]
      obtain ⟨t, ht⟩ := ih (i + 1) (seeL o (kidsAt ws (o.getD i 0)))
      obtain ⟨u, hu⟩ := seeL_pre (kidsAt ws (o.getD i 0)) o
      exact ⟨u ++ t, by rw [ht, hu, List.append_assoc]⟩
    · rw [bfs_end hi]; exact ⟨[], by simp⟩
theorem bfs_closed {ws : List Int} {h b n : Nat} {ps : List Nat} (hR : Right ws h b n ps) : ∀ (f i : Nat) (o : List Nat), Ordered ps o → ws.length ≤ f + i →
    (∀ j, j < i → j < o.length → Cl o (kidsAt ws (o.getD j 0))) → ∀ p ∈ bfs ws f i o, Cl (bfs ws f i o) (kidsAt ws p) := by
  intro f
  induction f with
  | zero =>
    intro i o ho hl hc p hp
    have := hR.ord_len ho
    obtain ⟨j, hj, rfl⟩ := List.mem_iff_getElem.1 hp
    have := hc j (by simp only [bfs] at hj; omega) hj
    rwa [List.getD_eq_getElem?_getD, List.getElem?_eq_getElem (show j < o.length from hj)] at this
  | succ f ih =>
    intro i o ho hl hc
    by_cases hi : i < o.length
    · rw [bfs_go hi]
      refine ih (i + 1) _ (hR.see ho hi) (by omega) (fun j hj hjl => ?_)
      by_cases hji : j < i
      · rw [seeL_at (by omega)]
        obtain ⟨t, ht⟩ := seeL_pre (kidsAt ws (o.getD i 0)) o
        rw [ht]
        exact (hc j hji (by omega)).mono t
      · obtain rfl : j = i := by omega
        rw [seeL_at hi]
        exact seeL_mem _ _
    · rw [bfs_end hi]
      intro p hp
      obtain ⟨j, hj, rfl⟩ := List.mem_iff_getElem.1 hp
      have := hc j (by omega) hj
      rwa [List.getD_eq_getElem?_getD, List.getElem?_eq_getElem hj] at this
theorem order_roots (ws rs : List Int) : Cl (orderOf ws rs) rs := by
  unfold orderOf
  obtain ⟨t, ht⟩ := bfs_pre (ws := ws) ws.length 0 (seeL [] rs)
  rw [ht]
  exact (seeL_mem rs []).mono t
theorem order_kids {ws rs : List Int} {h b n : Nat} {ps : List Nat} (hR : Right ws h b n ps) (hx : rs.all (wordIn ps) = true) {p : Nat} (hp : p ∈ orderOf ws rs) : Cl (orderOf ws rs) (kidsAt ws p) :=
  bfs_closed hR ws.length 0 (seeL [] rs) (seeL_ok (ordered_nil ps) hx) (by omega) (fun j hj => absurd hj (by omega)) p hp
theorem order_ok {ws rs : List Int} {h b n : Nat} {ps : List Nat} (hR : Right ws h b n ps) (hx : rs.all (wordIn ps) = true) : Ordered ps (orderOf ws rs) := bfs_ok hR _ _ _ (seeL_ok (ordered_nil ps) hx)
theorem shapeOf_not {ws : List Int} {h b n : Int} {rs : List Int} (hr : rightOf ws h b n rs = false) : shapeOf ws h b n rs = st [] := by simp [shapeOf, hr]
theorem shapeOf_yes {ws : List Int} {h b n : Int} {rs : List Int} (hr : rightOf ws h b n rs = true) : shapeOf ws h b n rs = st (shapeL ws (orderOf ws rs) rs) := by simp [shapeOf, hr]
theorem Right.ofR {ws : List Int} {h b n : Int} {rs : List Int} (hr : rightOf ws h b n rs = true) : ∃ h' b' n' : Nat, ∃ ps, h = h' ∧ b = b' ∧ n = n' ∧ Right ws h' b' n' ps ∧ rs.all (wordIn ps) = true := by
  obtain ⟨h', b', n', ps, rfl, rfl, rfl, hR⟩ := Right.of (rightOf_heap hr)
  refine ⟨h', b', n', ps, rfl, rfl, rfl, hR, ?_⟩
  rw [rightOf_at (rightOf_heap hr) hR.some] at hr
  exact hr

end Go.Proofs.Ytmcoidnonmmpjaa
