/- A heap made anew is in order, told of by the program's HeapOk. -/
import Derived.Test.YtmcoidnonmmpjaaHeapL
import Derived.Test.YtmcoidnonmmpjaaHeapOk
import Derived.Test.YtmcoidnonmmpjaaHeapNew
import Derived.Test.YtmcoidnonmmpjaaAllocP
import Derived.Test.YtmcoidnonmmpjaaTold
namespace Go.Proofs.Ytmcoidnonmmpjaa
open Go.RowKit
set_option linter.unusedVariables false

theorem newWords_ok {n : Int} : intsOk (newWords n) := by
  refine intsOk_of fun y hy => ?_
  unfold newWords at hy
  by_cases h : inB n 1 3000 = true
  · rw [if_pos h] at hy
    rw [List.eq_of_mem_replicate hy]
    decide
  · rw [if_neg h] at hy
    cases hy

theorem iHeapOk_new {n : Int} (hn : -9223372036854775808 ≤ n ∧ n ≤ 9223372036854775807) (hm : inB n 1 3000 = true) {B : Nat} (v : Value) (w : World) (hr : Rd B .i64 w v (newWords n)) :
    Calls Try.prog 10 #[.agg #[v, .int .i64 n, .int .i64 0, .int .i64 0]] w fun e w' => e = .returned (.bool true) ∧ Below w.heap.size w w' := by
  have q := iHeapOk_any v (newWords n) n 0 0 w hr newWords_ok (Nat.le_trans (newWords_len n) (by decide)) hn (by decide) (by decide)
  rw [new_ok hm] at q
  exact q

theorem Putd.low {ws : List Int} {h b n : Nat} {f : Bool} {tag : Int} {ks : List Int} {P : Put} {ps : List Nat} (hP : Putd ws h b n f tag ks P) (hR : Right ws h b n ps) {j : Nat} (hj : j < n) :
    P.ws.getD j 0 = ws.getD j 0 := by
  rw [hP.ws_]
  exact ov_low hj (by have := hR.n_le.1; omega)

theorem told_is {W : World} {qs : List Int} {p : Nat} {f : Bool} {t : Int} {ks : List Int} (t2 : hFun (qs.getD p 0) = f) (t3 : hTag (qs.getD p 0) = t) (t4 : kidsAt qs p = ks) {e : Ending} {w' : World}
    (h : BlockTold W qs e w' (some p)) : ∃ u, e = .returned (.tuple #[.bool f, .int .i64 t, u, .bool true]) ∧ w'.ownsRow W.heap.size 3 1 u ks.length (ks.map (Value.int .i64)) := by
  subst t2
  subst t3
  subst t4
  exact h

end Go.Proofs.Ytmcoidnonmmpjaa
