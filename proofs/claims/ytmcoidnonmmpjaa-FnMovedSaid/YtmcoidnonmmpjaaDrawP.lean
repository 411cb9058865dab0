/- A drawn heap: what is known of it. Nothing of the program is named here. -/
import Derived.Test.YtmcoidnonmmpjaaHeapL
import Derived.Test.YtmcoidnonmmpjaaMgMvI
import Derived.Test.YtmcoidnonmmpjaaShapeP
import Derived.Test.YtmcoidnonmmpjaaMgDraw
namespace Go.Proofs.Ytmcoidnonmmpjaa
open Go.RowKit
set_option linter.unusedVariables false

/-- words and numbers of a heap, within their bounds. -/
structure HeapIn (ws : List Int) (h b n : Int) : Prop where
  ok : intsOk ws
  pos : 0 < ws.length
  le : ws.length ≤ 6000
  h : i64In h
  b : i64In b
  n : i64In n
theorem intsOk_cons {x : Int} {ks : List Int} (hx : i64In x) (h : intsOk ks) : intsOk (x :: ks) := intsOk_of fun y hy => by
  rcases List.mem_cons.1 hy with rfl | hy
  · exact hx
  · exact intsOk_mem h y hy
theorem intsOk_append {xs ys : List Int} (h : intsOk xs) (k : intsOk ys) : intsOk (xs ++ ys) := intsOk_of fun y hy => by
  rcases List.mem_append.1 hy with hy | hy
  · exact intsOk_mem h y hy
  · exact intsOk_mem k y hy
theorem intsOk_nil : intsOk [] := intsOk_of fun x hx => by cases hx
theorem HeapIn.alloc {ws : List Int} {h b n : Int} {f : Bool} {tag : Int} {ks : List Int} (H : HeapIn ws h b n) (hk : intsOk ks) :
    HeapIn (allocOf ws h b n f tag ks).ws h b (allocOf ws h b n f tag ks).next ∧ (allocOf ws h b n f tag ks).ws.length = ws.length ∧ i64In (allocOf ws h b n f tag ks).at_ ∧ ((allocOf ws h b n f tag ks).ok = true → 0 ≤ (allocOf ws h b n f tag ks).at_ ∧ (allocOf ws h b n f tag ks).at_ ≤ 6000) := by
  cases hok : (allocOf ws h b n f tag ks).ok
  · rw [alloc_no hok]
    exact ⟨H, rfl, by unfold i64In; dsimp only; omega, by simp⟩
  · obtain ⟨h', b', n', ps, rfl, rfl, rfl, hR, hP⟩ := alloc_ok hok
    generalize allocOf ws h' b' n' f tag ks = P at hP hok ⊢
    have hl := hR.frame.len
    have hb := hR.frame.base
    have h1 := hR.frame.h1
    have hfit := hP.fit
    have hd := hdOf_in f tag ks.length hP.tag0.1 hP.tag0.2 hP.kids
    have e : P.ws.length = ws.length := by rw [hP.ws_]; exact ov_len (by simp only [List.length_cons]; omega)
    refine ⟨⟨?_, by rw [e]; exact H.pos, by rw [e]; exact H.le, H.h, H.b, ?_⟩, e, ?_, fun _ => ?_⟩
    · rw [hP.ws_]
      exact ov_ok H.ok (intsOk_cons (by unfold i64In; omega) hk)
    · rw [hP.next]; unfold i64In; omega
    · rw [hP.at_]; unfold i64In; omega
    · rw [hP.at_]; omega
theorem HeapIn.coll {ws : List Int} {h b n : Int} {rs : List Int} (H : HeapIn ws h b n) (hk : intsOk rs) :
    HeapIn (collectOf ws h b n rs).ws h (collectOf ws h b n rs).base (collectOf ws h b n rs).next ∧ (collectOf ws h b n rs).ws.length = ws.length ∧ intsOk (collectOf ws h b n rs).roots ∧ (collectOf ws h b n rs).roots.length = rs.length := by
  cases hr : rightOf ws h b n rs
  · rw [collect_not hr]
    exact ⟨H, rfl, hk, rfl⟩
  · obtain ⟨h', b', n', ps, rfl, rfl, rfl, hR, hx⟩ := Right.ofR hr
    have hb := hR.frame.base
    have hbh : b' ≤ h' := by omega
    have hl := hR.frame.len
    have h1 := hR.frame.h1
    have ho := order_ok hR hx
    have hraw := hR.raw_le ho
    rw [collect_yes hbh hr]
    have e : (lay (h' - b') ws.length (mvd ws (h' - b') (orderOf ws rs) (orderOf ws rs))).length = ws.length := lay_len (by rw [mvd_len]; omega)
    refine ⟨⟨lay_ok (mvd_ok hR ho (by omega) H.ok _), by rw [e]; exact H.pos, by rw [e]; exact H.le, H.h, ?_, ?_⟩, e, ?_, by simp⟩
    · unfold i64In; dsimp only; omega
    · unfold i64In; dsimp only; omega
    · refine intsOk_of fun y hy => ?_
      obtain ⟨x, hxm, rfl⟩ := List.mem_map.1 hy
      exact mv_ok hR ho (by omega) (intsOk_mem hk x hxm)
theorem grow_step {w0 w w' : World} {g : Nat} {r : Option Nat} (h : w0.grownBy w (some g)) (k : w.grownBy w' r) (hr : ∀ i, r = some i → i = g ∨ w0.heap.size ≤ i) : w0.grownBy w' (some g) := by
  refine ⟨k.os.trans h.os, k.tape.trans h.tape, k.output.trans h.output, Nat.le_trans h.size k.size, fun i hi hne => ?_⟩
  refine (k.block i (Nat.lt_of_lt_of_le hi h.size) (fun e => ?_)).trans (h.block i hi hne)
  rcases hr i e.symm with rfl | h'
  · exact hne rfl
  · omega
theorem grow_of_below {w w' : World} (h : Below w.heap.size w w') (r : Option Nat) : w.grownBy w' r := ⟨h.os, h.tape, h.output, h.size, fun i hi _ => h.block i hi⟩
theorem Cur.below {w w' : World} {g m : Nat} {v : Value} (h : Cur w g v m) (hb : Below w.heap.size w w') : Cur w' g v m := by
  obtain ⟨i, x, k, hh⟩ := h
  exact ⟨i, x, k.below hb k.1, hh⟩
theorem Cur.lt {w : World} {g m : Nat} {v : Value} (h : Cur w g v m) : g < w.heap.size := by
  obtain ⟨i, x, k, hh⟩ := h
  exact k.1
theorem Cur.kept {w w' : World} {g m : Nat} {v : Value} {r : Option Nat} (h : Cur w g v m) (hg : w.grownBy w' r) (hr : some g ≠ r) : Cur w' g v m := by
  obtain ⟨i, x, k, hh⟩ := h
  exact ⟨i, x, k.grown hg hr, hh⟩
theorem own_far {base : Nat} {e : TypeId} {sz n : Nat} {w : World} {v : Value} {xs : List Value} (h : w.ownsRow base e sz v n xs) {g : Nat} (hg : g < base) : v.ownBlock = none ∨ v.ownBlock ≠ some g := by
  rcases hv : v.ownBlock with _ | k
  · exact .inl rfl
  · right
    intro he
    have := (h.lt k hv).1
    injection he with he
    omega
theorem own_made {w x : World} {A : Array Value} {e : TypeId} (h : w.alloc (.cells A e) = x) {base : Nat} (hb : base ≤ w.heap.size) (n : Nat) (hn : A.size = n) (hm : n ≤ maxLen) : x.ownsRow base e 1 (.slice (some ⟨w.heap.size, 0, none⟩) n n) n A.toList := by
  subst h
  refine ⟨by simpa using hn, .inr ⟨w.heap.size, n, A, rfl, hb, heap_alloc_new w _, Nat.le_refl _, hm, by simpa using hn, ?_⟩⟩
  rw [Nat.mul_one, List.take_of_length_le (by simp; omega)]

end Go.Proofs.Ytmcoidnonmmpjaa
