/- A row of bytes that grows by numbers: append(out, PutNum(n)...). -/
import Derived.Test.YtkpkofddfjgmpaaBytesP
import Derived.Test.YtkpkofddfjgmpaaAppR
namespace Go.Proofs.Ytkpkofddfjgmpaa
open Go.RowKit
set_option linter.unusedVariables false

/-- v is a row of bytes xs of the call's own, not longer than n; nothing that was there ahead of the call has turned. -/
structure Acc (w0 W : World) (v : Value) (xs : List Int) (n : Nat) : Prop where
  own : W.ownsRow w0.heap.size 5 1 v xs.length (xs.map (Value.int .u8))
  low : Below w0.heap.size w0 W
  len : xs.length ≤ n
theorem Acc.below {w0 W W' : World} {v : Value} {xs : List Int} {n : Nat} (h : Acc w0 W v xs n) (hb : Below W.heap.size W W') : Acc w0 W' v xs n :=
  ⟨own_below h.own hb (own_lt h.own), h.low.trans (hb.mono h.low.size), h.len⟩
theorem Acc.mono {w0 W : World} {v : Value} {xs : List Int} {n m : Nat} (h : Acc w0 W v xs n) (hm : n ≤ m) : Acc w0 W v xs m := ⟨h.own, h.low, Nat.le_trans h.len hm⟩
theorem Acc.ne {w0 W : World} {v : Value} {xs : List Int} {n : Nat} (h : Acc w0 W v xs n) : v.ownBlock ≠ some W.heap.size := fun hq => by have := own_lt h.own _ hq; omega
/-- a box apart from the row stays. -/
def Keeps (v : Value) (W : World) (v' : Value) (W' : World) : Prop := ∀ g cur, Bx W g cur → v.ownBlock ≠ some g → Bx W' g cur ∧ v'.ownBlock ≠ some g
theorem wpList_num {P : Program} {w0 w : World} {ops : Array Oper} {rest : List Oper} {o : Oper} {a : Act} {Q : Exit → Act → World → Prop} (hgd : o.guard = none) (s x : Operand) (t : TypeId)
    (ho : o.op = .call { callee := .builtin .append, args := #[s, x], argTypes := #[t, t] })
    (i : TypeInfo) (z : Value) (bytes : Nat) (ht : P.underlying t = some (.slice 5)) (hi : P.info? 5 = some i) (hz : i.zero = some z)
    (hsize : i.size = 1) (hby : i.bytes = bytes) (hzs : z.cells.size = 1) (hbytes : bytes ≤ 1000)
    (v : Value) (xs : List Int) (n : Nat) (hs : a.eval s = v) (hA : Acc w0 w v xs n) (hn : n ≤ 4000000000)
    (N : Int) (B : Nat) (ua : Option Addr) (c : Nat) (hx : a.eval x = .slice ua (putNum N).length c) (hr : w.ownsRow B 5 1 (.slice ua (putNum N).length c) (putNum N).length ((putNum N).map (Value.int .u8)))
    (h : ∀ v' w', Acc w0 w' v' (xs ++ putNum N) (n + 5) → Keeps v w v' w' → wpList P ops Q rest (a.put o.dst v') w') : wpList P ops Q (o :: rest) a w := by
  have hu := putNum_len5 N
  have hl := hA.len
  refine wpList_app_rd (B := w.heap.size) (k := .u8) _ hgd s x t ho w0.heap.size 5 i z bytes ht hi hz hsize hby hzs v _ _ hs hA.own ua (putNum N).length c (putNum N) hx (Rd.of_own hr) (by omega) hbytes hA.low.size ?_
  intro v' w' o4 g4 alt
  rw [← List.map_append, ← List.length_append] at o4
  refine h v' w' ⟨o4, hA.low.trans (Below.of_grown (B := w0.heap.size) g4 hA.low.size (fun q hq => (hA.own.lt q hq).1)), by rw [List.length_append]; omega⟩ (fun g cur hb hne => ⟨hb.grown g4 (fun h => hne h.symm), fun hq => ?_⟩)
  rcases alt with h | h
  · exact hne (h ▸ hq)
  · rw [h] at hq
    cases hq
    have := hb.1
    omega

end Go.Proofs.Ytkpkofddfjgmpaa
