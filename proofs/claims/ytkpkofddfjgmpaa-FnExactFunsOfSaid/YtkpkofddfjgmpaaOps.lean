/- A function's places: what a slice of them reads as; toOpS, eqOpS, szOpS. -/
import Derived.Test.YtkpkofddfjgmpaaRows
import Derived.Test.YtkpkofddfjgmpaaElem
import Derived.Test.YtkpkofddfjgmpaaHeapTo
namespace Go.Proofs.Ytkpkofddfjgmpaa
open Go.RowKit
set_option linter.unusedVariables false

structure O3 where
  c : Int
  n : Int
  m : Int
deriving DecidableEq
def O3.enc (o : O3) : List Value := [.int .i64 o.c, .int .i64 o.n, .int .i64 o.m]
theorem O3.enc_len (o : O3) : o.enc.length = 3 := rfl
def O3.val (o : O3) : Value := .agg #[.int .i64 o.c, .int .i64 o.n, .int .i64 o.m]
def o3In (o : O3) : Prop := (-9223372036854775808 ≤ o.c ∧ o.c ≤ 9223372036854775807) ∧ (-9223372036854775808 ≤ o.n ∧ o.n ≤ 9223372036854775807) ∧ (-9223372036854775808 ≤ o.m ∧ o.m ≤ 9223372036854775807)
abbrev RdO (B : Nat) (w : World) (v : Value) (os : List O3) : Prop := RdE O3.enc 3 B w v os
/-- the three cells of a place. -/
theorem RdO.at_ {B : Nat} {w : World} {v : Value} {os : List O3} (h : RdO B w v os) {k : Nat} (hk : k < os.length) : ∃ b off cap, v = .slice (some ⟨b, off, none⟩) os.length cap ∧ b < B ∧ b < w.heap.size ∧ os.length ≤ cap ∧
    w.cell? ⟨b, off + k * 3, none⟩ = some (.int .i64 os[k].c) ∧ w.cell? ⟨b, off + k * 3 + 1, none⟩ = some (.int .i64 os[k].n) ∧ w.cell? ⟨b, off + k * 3 + 2, none⟩ = some (.int .i64 os[k].m) := by
  obtain ⟨b, off, cap, h1, h2, h3, h4, h5⟩ := RdE.at_ h hk
  exact ⟨b, off, cap, h1, h2, h3, h4, h5 0 (by decide), h5 1 (by decide), h5 2 (by decide)⟩

set_option maxHeartbeats 800000 in
set_option maxRecDepth 100000 in
theorem toOp_any (c n m : Int) (w : World) :
    Calls Try.prog 114 #[.agg #[.int .i64 c, .int .i64 n, .int .i64 m]] w fun e w' => e = .returned (.agg #[.int .i64 c, .int .i64 n, .int .i64 m]) ∧ Below w.heap.size w w' := by
  go_enter Try.func114, Try.ntmps114
  go_wp2
  refine bodyPost_ret (v := .agg #[.int .i64 c, .int .i64 n, .int .i64 m]) ?_ rfl ⟨rfl, ?_⟩
  · simp [results, Try.results114, go_sem]
  · repeat (with_reducible refine Below.setCell ?_ (by dsimp only; omega) _)
    exact (((Below.refl _ _).alloc (Nat.le_refl _) _).alloc (by simp) _).alloc (by simp; omega) _

set_option maxHeartbeats 400000 in
theorem szOpS_any {B : Nat} (v : Value) (os : List O3) (left : Int) (w : World) (hr : RdO B w v os) (h0 : -1 ≤ left) (h1 : left ≤ 4611686018427387904) :
    Calls Try.prog 65 #[v, .int .i64 left] w fun e w' => e = .returned (.int .i64 (szOf os.length left)) ∧ w = w' := by
  have hx := hr.len
  unfold maxLen at hx
  obtain ⟨a, cap, rfl⟩ := hr.form
  clear hr
  by_cases hneg : left - os.length < 0
  · have HF := Lib.hid (show szOf os.length left = -1 from if_pos hneg)
    go_enter Try.func65, Try.ntmps65
    go_wp2
    go_ret
    exact ⟨ret_int HF.out.symm, rfl⟩
  · have HF := Lib.hid (show szOf os.length left = left - os.length from if_neg hneg)
    go_enter Try.func65, Try.ntmps65
    go_wp2
    go_ret
    exact ⟨ret_int HF.out.symm, rfl⟩

theorem Try.infoOp : (Try.prog.info? 81).map (fun i => (i.zero, i.size, i.bytes)) = some (some (.agg #[.int .i64 0, .int .i64 0, .int .i64 0]), 3, 24) := by kernel_rfl

end Go.Proofs.Ytkpkofddfjgmpaa
