/- The digits of a number, in plain Lean. Nothing of the program is named here. -/
import Derived.Test.YtmcoidnonmmpjaaMem
namespace Go.Proofs.Ytmcoidnonmmpjaa
open Go.RowKit
set_option linter.unusedVariables false

def dig (n : Nat) : UInt8 := UInt8.ofNat (48 + n)
def digF : Nat → Nat → List UInt8
  | 0, _ => []
  | f + 1, n => if n < 10 then [dig n] else digF f (n / 10) ++ [dig (n % 10)]
theorem digF_lt {f n : Nat} (h : n < 10) : digF (f + 1) n = [dig n] := by rw [digF, if_pos h]
theorem digF_ge {f n : Nat} (h : ¬ n < 10) : digF (f + 1) n = digF f (n / 10) ++ [dig (n % 10)] := by rw [digF, if_neg h]
theorem digF_fuel : ∀ (f g n : Nat), n < 10 ^ (f + 1) → n < 10 ^ (g + 1) → digF (f + 1) n = digF (g + 1) n := by
  intro f
  induction f with
  | zero => intro g n h1 h2; rw [digF_lt (by simpa using h1), digF_lt (by simpa using h1)]
  | succ f ih =>
    intro g n h1 h2
    by_cases h : n < 10
    · rw [digF_lt h, digF_lt h]
    · rw [digF_ge h, digF_ge h]
      cases g with
      | zero => simp at h2; omega
      | succ g => rw [ih g (n / 10) (by rw [Nat.pow_succ] at h1; omega) (by rw [Nat.pow_succ] at h2; omega)]
theorem digF_len : ∀ (f n : Nat), (digF f n).length ≤ f := by
  intro f
  induction f with
  | zero => intro n; simp [digF]
  | succ f ih =>
    intro n
    by_cases h : n < 10
    · rw [digF_lt h]; simp
    · rw [digF_ge h]; have := ih (n / 10); simp; omega
/-- the text of a number. -/
def digL (n : Int) : List UInt8 := if n < 0 then 45 :: digF 20 n.natAbs else digF 20 n.natAbs
def st (l : List UInt8) : ByteArray := ⟨l.toArray⟩
def digs (n : Int) : ByteArray := st (digL n)
theorem st_size (l : List UInt8) : (st l).size = l.length := by simp [st, ByteArray.size]
theorem st_append (a b : List UInt8) : st a ++ st b = st (a ++ b) := by
  unfold st
  rw [ByteArray.mk_append_mk]
theorem digL_len (n : Int) : (digL n).length ≤ 21 := by
  unfold digL
  have := digF_len 20 n.natAbs
  split
  · simp; omega
  · omega
theorem digs_size (n : Int) : (digs n).size ≤ 21 := by unfold digs; rw [st_size]; exact digL_len n
theorem digF_20 {f n : Nat} (h1 : n < 10 ^ (f + 1)) (h2 : n < 10 ^ 20) : digF (f + 1) n = digF 20 n := digF_fuel f 19 n h1 h2
theorem digL_nat {n : Nat} : digL (n : Int) = digF 20 n := by unfold digL; rw [if_neg (by omega)]; rfl
theorem digL_neg {n : Nat} (h : 0 < n) : digL (-(n : Int)) = 45 :: digF 20 n := by unfold digL; rw [if_pos (by omega), show (-(n : Int)).natAbs = n by omega]
theorem digF_step {n : Nat} (h : ¬ n < 10) (hn : n < 10 ^ 20) : digF 20 n = digF 20 (n / 10) ++ [dig (n % 10)] := by
  rw [digF_ge h, digF_fuel 18 19 (n / 10) (by omega) (by omega)]
theorem st_45 (l : List UInt8) : (⟨#[45]⟩ : ByteArray) ++ st l = st (45 :: l) := st_append [45] l

end Go.Proofs.Ytmcoidnonmmpjaa
