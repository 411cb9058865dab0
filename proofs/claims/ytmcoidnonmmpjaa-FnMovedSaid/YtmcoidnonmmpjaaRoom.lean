/- Room of the program and of the reference. -/
import Derived.Test.YtmcoidnonmmpjaaHeapOkS
namespace Go.Proofs.Ytmcoidnonmmpjaa
open Go.RowKit
set_option linter.unusedVariables false

/-- how much room a heap has. -/
def roomOf (ws : List Int) (h b n : Int) : Int := if heapOk ws h b n then b + h - n else 0
theorem heapOk_frame {ws : List Int} {h b n : Int} (hok : heapOk ws h b n = true) : heapFrame ws h b n = true := by
  unfold heapOk at hok
  rw [Bool.and_eq_true] at hok
  exact hok.1

set_option maxHeartbeats 800000 in
set_option maxRecDepth 100000 in
theorem iRoom_any {B : Nat} (v : Value) (ws : List Int) (h b n : Int) (w : World) (hr : Rd B .i64 w v ws) (hw : intsOk ws) (hlen : ws.length ≤ 4294967296)
    (bh : -9223372036854775808 ≤ h ∧ h ≤ 9223372036854775807) (bb : -9223372036854775808 ≤ b ∧ b ≤ 9223372036854775807) (bn : -9223372036854775808 ≤ n ∧ n ≤ 9223372036854775807) :
    Calls Try.prog 20 #[.agg #[v, .int .i64 h, .int .i64 b, .int .i64 n]] w fun e w' => e = .returned (.int .i64 (roomOf ws h b n)) ∧ Below w.heap.size w w' := by
  have hS := fun (W : World) (hb : Below w.heap.size w W) => iHeapOk_any v ws h b n W (hr.below' hb) hw hlen bh bb bn
  obtain ⟨a, cap, rfl⟩ := hr.form
  cases hok : heapOk ws h b n
  · rw [hok] at hS
    have HS := Lib.hid hS
    have HF := Lib.hid (show roomOf ws h b n = 0 by simp [roomOf, hok])
    clear hS hr hw bh bb bn hok
    go_enter Try.func20, Try.ntmps20
    go_wp2_with fail
    generalize hx : w.alloc _ = x
    obtain ⟨bx, k1⟩ := Bx.alloc hx
    clear hx
    refine (HS.out _ bx).mono ?_
    rintro e w1 ⟨rfl, b1⟩
    have b2 := bx.trans (b1.mono bx.size)
    clear bx b1 k1
    go_wp2
    go_ret
    exact ⟨ret_int HF.out.symm, b2⟩
  · obtain ⟨h', b', n', rfl, rfl, rfl, hF⟩ := heapFrame_true (heapOk_frame hok)
    have e1 : b' + h' ≤ 6000 := by have := hF.h1; have := hF.base; omega
    have e2 : n' ≤ 6000 := by have := hF.n1; omega
    rw [hok] at hS
    have HS := Lib.hid hS
    have HF := Lib.hid (show roomOf ws h' b' n' = (b' : Int) + (h' : Int) - (n' : Int) by simp [roomOf, hok])
    clear hS hr hw bh bb bn hok hF
    go_enter Try.func20, Try.ntmps20
    go_wp2_with fail
    generalize hx : w.alloc _ = x
    obtain ⟨bx, k1⟩ := Bx.alloc hx
    clear hx
    refine (HS.out _ bx).mono ?_
    rintro e w1 ⟨rfl, b1⟩
    have b2 := bx.trans (b1.mono bx.size)
    replace k1 := k1.below b1 k1.1
    have q1 := k1.2.1
    clear bx b1 k1
    go_wp2
    go_ret
    exact ⟨ret_int HF.out.symm, b2⟩

set_option maxHeartbeats 800000 in
set_option maxRecDepth 100000 in
theorem sRoom_any {B : Nat} (v : Value) (ws : List Int) (h b n : Int) (w : World) (hr : Rd B .i64 w v ws) (hw : intsOk ws) (hlen : ws.length ≤ 4294967296)
    (bh : -9223372036854775808 ≤ h ∧ h ≤ 9223372036854775807) (bb : -9223372036854775808 ≤ b ∧ b ≤ 9223372036854775807) (bn : -9223372036854775808 ≤ n ∧ n ≤ 9223372036854775807) :
    Calls Try.prog 21 #[.agg #[v, .int .i64 h, .int .i64 b, .int .i64 n]] w fun e w' => e = .returned (.int .i64 (roomOf ws h b n)) ∧ Below w.heap.size w w' := by
  have hS := fun (W : World) (hb : Below w.heap.size w W) => sHeapOk_any v ws h b n W (hr.below' hb) hw hlen bh bb bn
  obtain ⟨a, cap, rfl⟩ := hr.form
  cases hok : heapOk ws h b n
  · rw [hok] at hS
    have HS := Lib.hid hS
    have HF := Lib.hid (show roomOf ws h b n = 0 by simp [roomOf, hok])
    clear hS hr hw bh bb bn hok
    go_enter Try.func21, Try.ntmps21
    go_wp2_with fail
    generalize hx : w.alloc _ = x
    obtain ⟨bx, k1⟩ := Bx.alloc hx
    clear hx
    refine (HS.out _ bx).mono ?_
    rintro e w1 ⟨rfl, b1⟩
    have b2 := bx.trans (b1.mono bx.size)
    clear bx b1 k1
    go_wp2
    go_ret
    exact ⟨ret_int HF.out.symm, b2⟩
  · obtain ⟨h', b', n', rfl, rfl, rfl, hF⟩ := heapFrame_true (heapOk_frame hok)
    have e1 : b' + h' ≤ 6000 := by have := hF.h1; have := hF.base; omega
    have e2 : n' ≤ 6000 := by have := hF.n1; omega
    rw [hok] at hS
    have HS := Lib.hid hS
    have HF := Lib.hid (show roomOf ws h' b' n' = (b' : Int) + (h' : Int) - (n' : Int) by simp [roomOf, hok])
    clear hS hr hw bh bb bn hok hF
    go_enter Try.func21, Try.ntmps21
    go_wp2_with fail
    generalize hx : w.alloc _ = x
    obtain ⟨bx, k1⟩ := Bx.alloc hx
    clear hx
    refine (HS.out _ bx).mono ?_
    rintro e w1 ⟨rfl, b1⟩
    have b2 := bx.trans (b1.mono bx.size)
    replace k1 := k1.below b1 k1.1
    have q1 := k1.2.1
    clear bx b1 k1
    go_wp2
    go_ret
    exact ⟨ret_int HF.out.symm, b2⟩

end Go.Proofs.Ytmcoidnonmmpjaa
