/- PutNum of the program and of the reference: seven bits a byte. -/
import Derived.Test.YtkpkofddfjgmpaaScalar
import Derived.Test.YtkpkofddfjgmpaaMem
namespace Go.Proofs.Ytkpkofddfjgmpaa
open Go.RowKit
set_option linter.unusedVariables false

/-- the bytes of a number. -/
def putN (n : Nat) : List Int := if 127 < n then ((n % 128 + 128 : Nat) : Int) :: putN (n / 128) else [(n : Int)]
termination_by n
decreasing_by omega
theorem putN_big {n : Nat} (h : 127 < n) : putN n = ((n % 128 + 128 : Nat) : Int) :: putN (n / 128) := by rw [putN, if_pos h]
theorem putN_small {n : Nat} (h : ¬ 127 < n) : putN n = [(n : Int)] := by rw [putN, if_neg h]
def putNum (n : Int) : List Int := if inB n 0 2147483647 then putN n.toNat else []

theorem putN_len (n : Nat) : (putN n).length ≤ n + 1 := by
  induction n using Nat.strongRecOn with
  | _ n ih =>
    by_cases h : 127 < n
    · rw [putN_big h]; have := ih (n / 128) (by omega); simp; omega
    · rw [putN_small h]; simp
theorem putNum_len (n : Int) : (putNum n).length ≤ 4294967296 := by
  unfold putNum
  cases hw : inB n 0 2147483647
  · simp
  · obtain ⟨h0, h1⟩ := inB_true.1 hw
    have := putN_len n.toNat
    simp only [if_true]
    omega

theorem Try.infoU8 : (Try.prog.info? 5).map (fun i => (i.zero, i.size, i.bytes)) = some (some (.int .u8 0), 1, 1) := by kernel_rfl

set_option maxHeartbeats 400000 in
set_option maxRecDepth 100000 in
theorem iPutNum_any (n : Int) (w : World) :
    Calls Try.prog 84 #[.int .i64 n] w fun e w' => ∃ v, e = .returned v ∧ w'.ownsRow w.heap.size 5 1 v (putNum n).length ((putNum n).map (Value.int .u8)) ∧ Below w.heap.size w w' := by
  cases hw : inB n 0 2147483647
  · have he : putNum n = [] := by simp [putNum, hw]
    have HE := Lib.hid he
    clear he
    go_enter Try.func84, Try.ntmps84
    go_wp2_with (go_at_call 62; refine (within_any _ _ _ _).mono ?_; rintro e w' ⟨rfl, rfl⟩)
    go_ret
    rw [HE.out]
    exact ⟨_, rfl, World.ownsRow_nil _ _ _ _, Below.refl _ _⟩
  · obtain ⟨h0, h1⟩ := inB_true.1 hw
    have he : putNum n = putN n.toNat := by simp [putNum, hw]
    have HE := Lib.hid he
    clear he
    obtain ⟨i0, hi, hz0, hz1, hz2⟩ := info_parts Try.infoU8
    go_enter Try.func84, Try.ntmps84
    go_wp2_with (go_at_call 62; refine (within_any _ _ _ _).mono ?_; rintro e w' ⟨rfl, rfl⟩)
    go_loopw [0, 3] (fun q v wr => ∃ (m : Nat) (acc : List Int), m ≤ 2147483647 ∧ q = .int .i64 m ∧ wr.ownsRow w.heap.size 5 1 v acc.length (acc.map (Value.int .u8)) ∧ Hid (acc ++ putN m = putN n.toNat) ∧ acc.length + m ≤ 2147483647 ∧ Below w.heap.size w wr) (fun q _ _ => (intOf q).toNat)
    case atStart => exact ⟨n.toNat, [], by omega, by go_num, by simpa using World.ownsRow_made w #[] 0 (Nat.le_refl _) (by simp) rfl, by show _ = _; simp, by simp; omega, (Below.refl _ _).alloc (Nat.le_refl _) _⟩
    case round =>
      obtain ⟨m, acc, hm, rfl, ho, hp, hl, hb⟩ := hrel
      have hbs := hb.size
      by_cases hlt : 127 < m
      · go_wp2_with (at_builtin; refine wpList_app1 rfl _ _ 22 rfl w.heap.size 5 i0 (.int .u8 0) 1 1 Try.underlying22 hi hz0 hz1 hz2 rfl (by decide) _ _ _ rfl ho #[_] rfl ?_ rfl ?_ ?_ ?_ ?_)
        · rfl
        · unfold maxLen; omega
        · omega
        · omega
        · intro v' w1 ho' hg _
          have hb' := hb.grown hg (by omega) (fun k hk => (ho.lt k hk).1)
          have R : w1.ownsRow w.heap.size 5 1 v' (acc ++ [((m % 128 + 128 : Nat) : Int)]).length ((acc ++ [((m % 128 + 128 : Nat) : Int)]).map (Value.int .u8)) ∧ Hid ((acc ++ [((m % 128 + 128 : Nat) : Int)]) ++ putN (m / 128) = putN n.toNat) := by
            refine ⟨by simpa using ho', ?_⟩
            show _ = _
            rw [← hp.out, putN_big hlt]
            simp
          clear ho' hg hb ho hp
          go_wp2
          go_roundw
          case rel => exact ⟨m / 128, _, by omega, by go_num, R.1, R.2, by simp; omega, hb'⟩
          case measure => simp [intOf]; omega
      · go_wp2_with (at_builtin; refine wpList_app1 rfl _ _ 22 rfl w.heap.size 5 i0 (.int .u8 0) 1 1 Try.underlying22 hi hz0 hz1 hz2 rfl (by decide) _ _ _ rfl ho #[_] rfl ?_ rfl ?_ ?_ ?_ ?_)
        · rfl
        · unfold maxLen; omega
        · omega
        · omega
        · intro v' w1 ho' hg _
          have hb' := hb.grown hg (by omega) (fun k hk => (ho.lt k hk).1)
          have R : w1.ownsRow w.heap.size 5 1 v' (putN n.toNat).length ((putN n.toNat).map (Value.int .u8)) := by
            rw [← hp.out, putN_small hlt]
            simpa using ho'
          clear ho' hg hb ho hp
          go_wp2
          go_ret
          rw [HE.out]
          exact ⟨_, rfl, R, hb'⟩

set_option maxHeartbeats 400000 in
set_option maxRecDepth 100000 in
theorem sPutNum_any (n : Int) (w : World) :
    Calls Try.prog 82 #[.int .i64 n] w fun e w' => ∃ v, e = .returned v ∧ w'.ownsRow w.heap.size 5 1 v (putNum n).length ((putNum n).map (Value.int .u8)) ∧ Below w.heap.size w w' := by
  cases hw : inB n 0 2147483647
  · have he : putNum n = [] := by simp [putNum, hw]
    have HE := Lib.hid he
    clear he
    go_enter Try.func82, Try.ntmps82
    go_wp2_with (go_at_call 64; refine (l1In_any _ _ _ _).mono ?_; rintro e w' ⟨rfl, rfl⟩)
    go_ret
    rw [HE.out]
    exact ⟨_, rfl, by simpa using World.ownsRow_made w #[] 0 (Nat.le_refl _) (by simp) rfl, (Below.refl _ _).alloc (Nat.le_refl _) _⟩
  · obtain ⟨h0, h1⟩ := inB_true.1 hw
    have he : putNum n = putN n.toNat := by simp [putNum, hw]
    have HE := Lib.hid he
    clear he
    obtain ⟨i0, hi, hz0, hz1, hz2⟩ := info_parts Try.infoU8
    go_enter Try.func82, Try.ntmps82
    go_wp2_with (go_at_call 64; refine (l1In_any _ _ _ _).mono ?_; rintro e w' ⟨rfl, rfl⟩)
    go_loopw [0, 3] (fun q v wr => ∃ (m : Nat) (acc : List Int), m ≤ 2147483647 ∧ q = .int .i64 m ∧ wr.ownsRow w.heap.size 5 1 v acc.length (acc.map (Value.int .u8)) ∧ Hid (acc ++ putN m = putN n.toNat) ∧ acc.length + m ≤ 2147483647 ∧ Below w.heap.size w wr) (fun q _ _ => (intOf q).toNat)
    case atStart => exact ⟨n.toNat, [], by omega, by go_num, by simpa using World.ownsRow_made w #[] 0 (Nat.le_refl _) (by simp) rfl, by show _ = _; simp, by simp; omega, (Below.refl _ _).alloc (Nat.le_refl _) _⟩
    case round =>
      obtain ⟨m, acc, hm, rfl, ho, hp, hl, hb⟩ := hrel
      have hbs := hb.size
      by_cases hlt : 127 < m
      · go_wp2_with (at_builtin; refine wpList_app1 rfl _ _ 22 rfl w.heap.size 5 i0 (.int .u8 0) 1 1 Try.underlying22 hi hz0 hz1 hz2 rfl (by decide) _ _ _ rfl ho #[_] rfl ?_ rfl ?_ ?_ ?_ ?_)
        · rfl
        · unfold maxLen; omega
        · omega
        · omega
        · intro v' w1 ho' hg _
          have hb' := hb.grown hg (by omega) (fun k hk => (ho.lt k hk).1)
          have R : w1.ownsRow w.heap.size 5 1 v' (acc ++ [((m % 128 + 128 : Nat) : Int)]).length ((acc ++ [((m % 128 + 128 : Nat) : Int)]).map (Value.int .u8)) ∧ Hid ((acc ++ [((m % 128 + 128 : Nat) : Int)]) ++ putN (m / 128) = putN n.toNat) := by
            refine ⟨by simpa using ho', ?_⟩
            show _ = _
            rw [← hp.out, putN_big hlt]
            simp
          clear ho' hg hb ho hp
          go_wp2
          go_roundw
          case rel => exact ⟨m / 128, _, by omega, by go_num, R.1, R.2, by simp; omega, hb'⟩
          case measure => simp [intOf]; omega
      · go_wp2_with (at_builtin; refine wpList_app1 rfl _ _ 22 rfl w.heap.size 5 i0 (.int .u8 0) 1 1 Try.underlying22 hi hz0 hz1 hz2 rfl (by decide) _ _ _ rfl ho #[_] rfl ?_ rfl ?_ ?_ ?_ ?_)
        · rfl
        · unfold maxLen; omega
        · omega
        · omega
        · intro v' w1 ho' hg _
          have hb' := hb.grown hg (by omega) (fun k hk => (ho.lt k hk).1)
          have R : w1.ownsRow w.heap.size 5 1 v' (putN n.toNat).length ((putN n.toNat).map (Value.int .u8)) := by
            rw [← hp.out, putN_small hlt]
            simpa using ho'
          clear ho' hg hb ho hp
          go_wp2
          go_ret
          rw [HE.out]
          exact ⟨_, rfl, R, hb'⟩

end Go.Proofs.Ytkpkofddfjgmpaa
