/- VmNew that says no; a new machine is right. -/
import Derived.Test.YtlkdlcpfcacigaaHeapNew
import Derived.Test.YtlkdlcpfcacigaaMgDepI
import Derived.Test.YtlkdlcpfcacigaaMgCallsOk
namespace Go.Proofs.Ytlkdlcpfcacigaa
open Go.RowKit
set_option linter.unusedVariables false
set_option linter.unusedSimpArgs false

abbrev nilV : Value := .slice none 0 0
def noL : VmL := ⟨[], [], 0, 0, 0, [], [], [], 0, false⟩
set_option maxHeartbeats 3200000 in
set_option maxRecDepth 100000 in
theorem iVmNew_no {B : Nat} (v : Value) (fs : List F2) (half : Int) (each : Bool) (w : World) (hr : RdF B w v fs) (hin : ∀ x ∈ fs, fnIn x) (hlen : fs.length ≤ 4294967296) (hno : inB half 1 3000 = false ∨ verB fs = false) :
    Calls Try.prog 7 #[v, .int .i64 half, .bool each] w fun e w' => e = .returned (.tuple #[vmV nilV nilV nilV nilV nilV noL, .bool false]) ∧ Below w.heap.size w w' := by
  have HV := Lib.hid (fun (W : World) (hb : Below w.heap.size w W) => iVerify_any v fs W (hr.below' hb) hin hlen)
  obtain ⟨ok, hok⟩ : ∃ ok, inB half 1 3000 = ok := ⟨_, rfl⟩
  obtain ⟨hf, hhf⟩ : ∃ hf : Int, (if inB half 1 3000 then half else 0) = hf := ⟨_, rfl⟩
  have HH := Lib.hid (fun (W : World) => (by
    have := iHeapNew_any half W
    rw [hhf, hok] at this
    exact this : Calls Try.prog 19 #[.int .i64 half] W fun e w' => ∃ v, e = .returned (.tuple #[.agg #[v, .int .i64 hf, .int .i64 0, .int .i64 0], .bool ok]) ∧
      w'.ownsRow W.heap.size 3 1 v (newWords half).length ((newWords half).map (Value.int .i64)) ∧ Below W.heap.size W w'))
  rw [hok] at hno
  obtain ⟨fa, fc, rfl⟩ := hr.form
  clear hr hin hok hhf
  go_enter Try.func7, Try.ntmps7
  go_wp2_with fail
  generalize hxx : w.alloc _ = x0
  obtain ⟨bx, k6⟩ := Bx.alloc hxx
  have sx : x0.heap.size = w.heap.size + 1 := by rw [← hxx, World.size_alloc]
  clear hxx
  refine (HH.out _).mono ?_
  rintro e w1 ⟨v1, rfl, o1, b1⟩
  obtain ⟨a1, c1, rfl⟩ := own_form o1
  generalize (newWords half).length = nl at o1 ⊢
  replace k6 := k6.below b1 k6.1
  replace bx := bx.trans (b1.mono bx.size)
  clear b1 o1
  cases ok with
  | false =>
    clear hno HV HH
    have BX := Lib.hid bx
    have q6 := k6.2.1
    have f6 := k6.2.2
    have y6 := k6.1
    go_wp2
    refine bodyPost_ret (v := .tuple #[.agg #[.slice none 0 0, .slice none 0 0, .int .i64 0, .int .i64 0, .int .i64 0, .slice none 0 0, .slice none 0 0, .slice none 0 0, .int .i64 0, .bool false], .bool false]) ?_ rfl ⟨rfl, ?_⟩
    · simp [results, Try.results7, go_sem, q6, y6]
    · have hsz := BX.out.size
      repeat (with_reducible first | refine Below.setCell ?_ (by exact Nat.le_refl _) _ | refine Below.alloc ?_ (by simp only [World.size_setCell]; exact hsz) _)
      with_reducible exact BX.out
  | true =>
    have hvb : verB fs = false := by rcases hno with h | h; (· cases h); exact h
    clear hno HH
    have HV2 := Lib.hid (fun (W : World) (hb : Below w.heap.size w W) => (by have := HV.out W hb; rw [hvb] at this; exact this : Calls Try.prog 20 #[.slice fa fs.length fc] W fun e w' => e = .returned (.bool false) ∧ Below W.heap.size W w'))
    clear HV hvb
    go_wp2_with fail
    generalize hxx : w1.alloc _ = w2
    obtain ⟨b2, k8⟩ := Bx.alloc hxx
    clear hxx
    replace k6 := k6.below b2 k6.1
    replace bx := bx.trans (b2.mono bx.size)
    refine (HV2.out _ bx).mono ?_
    rintro e w3 ⟨rfl, b3⟩
    replace k6 := k6.below b3 k6.1
    have BX := Lib.hid (bx.trans (b3.mono bx.size))
    have q6 := k6.2.1
    have f6 := k6.2.2
    have y6 := k6.1
    clear bx b2 b3 k8
    go_wp2
    refine bodyPost_ret (v := .tuple #[.agg #[.slice none 0 0, .slice none 0 0, .int .i64 0, .int .i64 0, .int .i64 0, .slice none 0 0, .slice none 0 0, .slice none 0 0, .int .i64 0, .bool false], .bool false]) ?_ rfl ⟨rfl, ?_⟩
    · simp [results, Try.results7, go_sem, q6, y6]
    · have hsz := BX.out.size
      repeat (with_reducible first | refine Below.setCell ?_ (by exact Nat.le_refl _) _ | refine Below.alloc ?_ (by simp only [World.size_setCell]; exact hsz) _)
      with_reducible exact BX.out

end Go.Proofs.Ytlkdlcpfcacigaa
