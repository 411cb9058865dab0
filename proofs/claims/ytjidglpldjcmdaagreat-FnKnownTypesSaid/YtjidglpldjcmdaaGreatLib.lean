/- Plain lemmas on numbers that the walks use; nothing of the program is named here. -/
import Derived.WalkKit
import Derived.WalkSpells
import Derived.WalkLawsBesides
import Derived.Lib.Hide
import Derived.Deep.QuietTactic
import Derived.BigQuiet
import Derived.Laws.AppendOwn
import Derived.Outline
namespace Go.Proofs.YtjidglpldjcmdaaGreat
open Go.RowKit
set_option linter.unusedVariables false

theorem i64_mask (k : Nat) (m n : Int) (hk : k ≤ 62) (hm : (BitVec.ofInt 64 m).toNat = 2 ^ k - 1) : bits .and .i64 n m = n % (2 ^ k : Nat) := by
  have key : (BitVec.ofInt 64 n &&& BitVec.ofInt 64 m).toNat = (n % ((2 ^ 64 : Nat) : Int)).toNat % 2 ^ k := by
    rw [BitVec.toNat_and, BitVec.toNat_ofInt, hm, Nat.and_two_pow_sub_one_eq_mod]
  show IntKind.i64.wrap ((BitVec.ofInt 64 n &&& BitVec.ofInt 64 m).toNat : Nat) = n % (2 ^ k : Nat)
  rw [key, IntKind.wrap_i64]
  have hd : ((2 ^ k : Nat) : Int) ∣ ((2 ^ 64 : Nat) : Int) := by
    exact Int.natCast_dvd_natCast.2 (Nat.pow_dvd_pow 2 (by omega))
  have h1 : 0 ≤ n % ((2 ^ 64 : Nat) : Int) := Int.emod_nonneg _ (by decide)
  have h2 : (((n % ((2 ^ 64 : Nat) : Int)).toNat % 2 ^ k : Nat) : Int) = n % (2 ^ k : Nat) := by
    rw [Int.natCast_emod, Int.toNat_of_nonneg h1, Int.emod_emod_of_dvd _ hd]
  have h4 : 2 ^ k ≤ 2 ^ 62 := Nat.pow_le_pow_right (by decide) hk
  have h3 : (n % ((2 ^ 64 : Nat) : Int)).toNat % 2 ^ k < 2 ^ k := Nat.mod_lt _ (Nat.pow_pos (by decide))
  rw [← h2]
  generalize (n % ((2 ^ 64 : Nat) : Int)).toNat % 2 ^ k = x at h3 ⊢
  have h5 : x < 2 ^ 62 := Nat.lt_of_lt_of_le h3 h4
  omega
theorem i64_and1 (n : Int) : bits .and .i64 n 1 = n % 2 := i64_mask 1 1 n (by decide) (by decide)
theorem i64_and63 (n : Int) : bits .and .i64 n 63 = n % 64 := i64_mask 6 63 n (by decide) (by decide)
theorem i64_and255 (n : Int) : bits .and .i64 n 255 = n % 256 := i64_mask 8 255 n (by decide) (by decide)
theorem i64_and30 (n : Int) : bits .and .i64 n 1073741823 = n % 1073741824 := i64_mask 30 1073741823 n (by decide) (by decide)
theorem i64_and31 (n : Int) : bits .and .i64 n 2147483647 = n % 2147483648 := i64_mask 31 2147483647 n (by decide) (by decide)
attribute [go_sem] i64_and1 i64_and63 i64_and255 i64_and30 i64_and31

theorem or_low (i : Nat) (hi : i ≤ 62) (x y : Int) (hx0 : 0 ≤ x) (hx1 : x < 4611686018427387904) (hm : x % ((2 ^ i : Nat) : Int) = 0) (h0 : 0 ≤ y) (h1 : y < ((2 ^ i : Nat) : Int)) : bits .or .i64 y x = y + x := by
  have hc : bits .or .i64 y x = bits .or .i64 x y := by simp only [bits, BitVec.or_comm]
  have h2 : ((2 ^ i : Nat) : Int) ≤ ((2 ^ 62 : Nat) : Int) := Int.ofNat_le.2 (Nat.pow_le_pow_right (by decide) hi)
  have h3 : y < ((2 ^ 62 : Nat) : Int) := Int.lt_of_lt_of_le h1 h2
  rw [hc, bits_join .i64 62 (by decide) (fun n a b => IntWalk.i64_in n ⟨by omega, by omega⟩) i x y hx0 (by simpa using hm) (by simpa using hx1) h0 (by simpa using h1) (by simpa using h3)]
  omega
theorem or_shift (k : Nat) (hk : k < 5) (n x : Int) (h0 : 0 ≤ n) (h1 : n < 128 ^ k) (x0 : 0 ≤ x) (x1 : x < 128) : bits .or .i64 n (wrap64 (x * 2 ^ (7 * k))) = n + x * 128 ^ k := by
  match k, hk with
  | 0, _ => simp only [Nat.mul_zero, Int.pow_zero, Int.mul_one] at h1 ⊢; rw [show wrap64 x = x from by unfold wrap64; omega]; exact or_low 0 (by decide) x n x0 (by omega) (by simp) h0 (by simpa using h1)
  | 1, _ => simp only [Nat.mul_one, Int.reducePow] at h1 ⊢; rw [show wrap64 (x * 128) = x * 128 from by unfold wrap64; omega]; exact or_low 7 (by decide) (x * 128) n (by omega) (by omega) (by simp) h0 (by simpa using h1)
  | 2, _ => simp only [Nat.reduceMul, Int.reducePow] at h1 ⊢; rw [show wrap64 (x * 16384) = x * 16384 from by unfold wrap64; omega]; exact or_low 14 (by decide) (x * 16384) n (by omega) (by omega) (by simp) h0 (by simpa using h1)
  | 3, _ => simp only [Nat.reduceMul, Int.reducePow] at h1 ⊢; rw [show wrap64 (x * 2097152) = x * 2097152 from by unfold wrap64; omega]; exact or_low 21 (by decide) (x * 2097152) n (by omega) (by omega) (by simp) h0 (by simpa using h1)
  | 4, _ => simp only [Nat.reduceMul, Int.reducePow] at h1 ⊢; rw [show wrap64 (x * 268435456) = x * 268435456 from by unfold wrap64; omega]; exact or_low 28 (by decide) (x * 268435456) n (by omega) (by omega) (by simp) h0 (by simpa using h1)

/-- lo <= n <= hi, as one Bool that the walk does not open. -/
def inB (n lo hi : Int) : Bool := decide (lo ≤ n) && decide (n ≤ hi)
theorem inB_true {n lo hi : Int} : inB n lo hi = true ↔ lo ≤ n ∧ n ≤ hi := by simp [inB]
theorem inB_false {n lo hi : Int} : inB n lo hi = false ↔ ¬ (lo ≤ n ∧ n ≤ hi) := by rw [← inB_true]; simp
/-- a word. -/
def wordB (n : Int) : Bool := inB n (-1073741824) 1073741823
def intW (n : Int) : Int := if wordB n then 2 * n + 1 else 1
def refW (n : Int) : Int := if inB n 0 6000 then 2 * n else 0
theorem results_tmp4 {fn : Func} {t u v x : Tmp} (h : fn.results = #[.tmp t, .tmp u, .tmp v, .tmp x]) (tmps : Array Value) (P : Program) (w : World) :
    (results fn tmps).run P w = .ok (.tuple #[tmps.getD t undef, tmps.getD u undef, tmps.getD v undef, tmps.getD x undef]) w := by
  simp [results, h]
theorem ret_bool {a b : Bool} (h : a = b) : Ending.returned (.bool a) = .returned (.bool b) := by rw [h]
theorem ret_int {k : IntKind} {a b : Int} (h : a = b) : Ending.returned (.int k a) = .returned (.int k b) := by rw [h]

end Go.Proofs.YtjidglpldjcmdaaGreat
