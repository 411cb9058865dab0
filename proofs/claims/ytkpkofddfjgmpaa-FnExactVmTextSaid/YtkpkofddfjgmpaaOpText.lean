/- OpText, FunText: a place and a function as text; what they return, in plain words. -/
import Derived.Test.YtkpkofddfjgmpaaOps
import Derived.Test.YtkpkofddfjgmpaaDigits
import Derived.Test.YtkpkofddfjgmpaaHand
import Derived.BigQuiet
namespace Go.Proofs.Ytkpkofddfjgmpaa
open Go.RowKit
set_option linter.unusedVariables false
set_option linter.unusedSimpArgs false

def opNs : List (List UInt8) := [[110, 117, 109], [108, 111, 99, 97, 108], [102, 114, 101, 101], [115, 101, 108, 102], [99, 108, 111, 115], [99, 97, 108, 108], [114, 101, 116], [99, 111, 110], [102, 105, 101, 108, 100], [105, 115, 99, 111, 110], [105, 115, 110, 117, 109], [97, 100, 100], [115, 117, 98], [109, 117, 108], [108, 101, 115, 115], [115, 97, 109, 101], [112, 117, 116], [122, 101, 114, 111], [106, 117, 109, 112], [115, 108, 105, 100, 101], [102, 97, 105, 108]]
def opL (k : Nat) : List UInt8 := opNs.getD k []
theorem opL_len (k : Nat) : (opL k).length ≤ 5 := by
  unfold opL
  rcases Nat.lt_or_ge k 21 with h | h
  · have : ∀ x ∈ opNs, x.length ≤ 5 := by decide
    rw [List.getD_eq_getElem?_getD, List.getElem?_eq_getElem (show k < opNs.length from h)]
    exact this _ (List.getElem_mem _)
  · rw [List.getD_eq_getElem?_getD, List.getElem?_eq_none (show opNs.length ≤ k from h)]
    simp
theorem names_at : ∀ (k : Nat) (h : k < 21), ([.string ⟨#[110, 117, 109]⟩, .string ⟨#[108, 111, 99, 97, 108]⟩, .string ⟨#[102, 114, 101, 101]⟩, .string ⟨#[115, 101, 108, 102]⟩, .string ⟨#[99, 108, 111, 115]⟩, .string ⟨#[99, 97, 108, 108]⟩, .string ⟨#[114, 101, 116]⟩, .string ⟨#[99, 111, 110]⟩, .string ⟨#[102, 105, 101, 108, 100]⟩, .string ⟨#[105, 115, 99, 111, 110]⟩, .string ⟨#[105, 115, 110, 117, 109]⟩, .string ⟨#[97, 100, 100]⟩, .string ⟨#[115, 117, 98]⟩, .string ⟨#[109, 117, 108]⟩, .string ⟨#[108, 101, 115, 115]⟩, .string ⟨#[115, 97, 109, 101]⟩, .string ⟨#[112, 117, 116]⟩, .string ⟨#[122, 101, 114, 111]⟩, .string ⟨#[106, 117, 109, 112]⟩, .string ⟨#[115, 108, 105, 100, 101]⟩, .string ⟨#[102, 97, 105, 108]⟩] : List Value)[k]'h = .string (st (opL k))
  | 0, _ => rfl
  | 1, _ => rfl
  | 2, _ => rfl
  | 3, _ => rfl
  | 4, _ => rfl
  | 5, _ => rfl
  | 6, _ => rfl
  | 7, _ => rfl
  | 8, _ => rfl
  | 9, _ => rfl
  | 10, _ => rfl
  | 11, _ => rfl
  | 12, _ => rfl
  | 13, _ => rfl
  | 14, _ => rfl
  | 15, _ => rfl
  | 16, _ => rfl
  | 17, _ => rfl
  | 18, _ => rfl
  | 19, _ => rfl
  | 20, _ => rfl
  | n + 21, h => by omega
theorem names_at2 (k : Nat) (h : k < 21) : (#[.string ⟨#[]⟩, .string ⟨#[110, 117, 109]⟩, .string ⟨#[108, 111, 99, 97, 108]⟩, .string ⟨#[102, 114, 101, 101]⟩, .string ⟨#[115, 101, 108, 102]⟩, .string ⟨#[99, 108, 111, 115]⟩, .string ⟨#[99, 97, 108, 108]⟩, .string ⟨#[114, 101, 116]⟩, .string ⟨#[99, 111, 110]⟩, .string ⟨#[102, 105, 101, 108, 100]⟩, .string ⟨#[105, 115, 99, 111, 110]⟩, .string ⟨#[105, 115, 110, 117, 109]⟩, .string ⟨#[97, 100, 100]⟩, .string ⟨#[115, 117, 98]⟩, .string ⟨#[109, 117, 108]⟩, .string ⟨#[108, 101, 115, 115]⟩, .string ⟨#[115, 97, 109, 101]⟩, .string ⟨#[112, 117, 116]⟩, .string ⟨#[122, 101, 114, 111]⟩, .string ⟨#[106, 117, 109, 112]⟩, .string ⟨#[115, 108, 105, 100, 101]⟩, .string ⟨#[102, 97, 105, 108]⟩] : Array Value)[k + 1]? = some (.string (st (opL k))) := by
  rw [← names_at k h]
  simp [h]
def opTxt (o : O3) : List UInt8 := if 1 ≤ o.c ∧ o.c ≤ 21 then opL (o.c - 1).toNat ++ [32] ++ digL o.n ++ [32] ++ digL o.m else []
theorem opTxt_len (o : O3) : (opTxt o).length ≤ 49 := by
  unfold opTxt
  split
  · have h1 := opL_len (o.c - 1).toNat
    have h2 := digL_len o.n
    have h3 := digL_len o.m
    simp only [List.length_append, List.length_cons, List.length_nil]
    omega
  · simp

theorem op_box2 {w x : World} {A B : Array Value} {e f : TypeId} (h : (w.alloc (.cells A e)).alloc (.cells B f) = x) :
    Below w.heap.size w x ∧ Bx x w.heap.size A ∧ Bx x (w.heap.size + 1) B := by
  obtain ⟨b1, k1⟩ := Bx.alloc (w := w) (cur := A) (e := e) rfl
  obtain ⟨b2, k2⟩ := Bx.alloc (w := w.alloc (.cells A e)) (cur := B) (e := f) rfl
  have s1 : (w.alloc (.cells A e)).heap.size = w.heap.size + 1 := by simp
  rw [s1] at k2 b2
  subst h
  exact ⟨b1.trans (b2.mono (by omega)), k1.below b2 (by omega), k2⟩

set_option maxHeartbeats 800000 in
set_option maxRecDepth 100000 in
theorem iOpText_any (o : O3) (w : World) (ho : o3In o) :
    Calls Try.prog 70 #[.agg #[.int .i64 o.c, .int .i64 o.n, .int .i64 o.m]] w fun e w' => e = .returned (.string (st (opTxt o))) ∧ Below w.heap.size w w' := by
  obtain ⟨c, n, m⟩ := o
  obtain ⟨⟨hc0, hc1⟩, ⟨hn0, hn1⟩, ⟨hm0, hm1⟩⟩ := ho
  dsimp only at hc0 hc1 hn0 hn1 hm0 hm1 ⊢
  by_cases hb : inB c 1 21 = true
  · have hcc : 1 ≤ c ∧ c ≤ 21 := by simpa [inB] using hb
    obtain ⟨k, hk⟩ : ∃ k : Nat, c - 1 = (k : Int) := ⟨(c - 1).toNat, by omega⟩
    obtain rfl : c = (k : Int) + 1 := by omega
    have hk21 : k < 21 := by omega
    have HT := Lib.hid (show opTxt ⟨(k : Int) + 1, n, m⟩ = opL k ++ [32] ++ digL n ++ [32] ++ digL m by unfold opTxt; rw [if_pos hcc]; simp)
    have HD1 := Lib.hid (fun (W : World) => (iDigits_any n W hn0 hn1).mono (fun e w' h => And.intro h.1 h.2.symm))
    have HD2 := Lib.hid (fun (W : World) => (iDigits_any m W hm0 hm1).mono (fun e w' h => And.intro h.1 h.2.symm))
    have hs0 : (st (opL k)).size ≤ 5 := by rw [st_size]; exact opL_len k
    have hs1 := digs_size n
    have hs2 := digs_size m
    have HL1 := Lib.hid (show digs n = st (digL n) from rfl)
    have HL2 := Lib.hid (show digs m = st (digL m) from rfl)
    obtain ⟨D1, hD1⟩ : ∃ D, digs n = D := ⟨_, rfl⟩
    obtain ⟨D2, hD2⟩ : ∃ D, digs m = D := ⟨_, rfl⟩
    rw [hD1] at hs1 HL1 HD1
    rw [hD2] at hs2 HL2 HD2
    have hnm := names_at k hk21
    obtain ⟨T, hT⟩ : ∃ T, st (opL k) = T := ⟨_, rfl⟩
    rw [hT] at hs0 hnm
    have HTT := Lib.hid hT
    have hz1 : T.size + (⟨#[32]⟩ : ByteArray).size ≤ 9223372036854775807 := by show _ + 1 ≤ _; omega
    have hz2 : (T ++ (⟨#[32]⟩ : ByteArray)).size + D1.size ≤ 9223372036854775807 := by rw [ByteArray.size_append]; show _ + 1 + _ ≤ _; omega
    have hz3 : (T ++ (⟨#[32]⟩ : ByteArray) ++ D1).size + (⟨#[32]⟩ : ByteArray).size ≤ 9223372036854775807 := by rw [ByteArray.size_append, ByteArray.size_append]; show _ + 1 + _ + 1 ≤ _; omega
    have hz4 : (T ++ (⟨#[32]⟩ : ByteArray) ++ D1 ++ (⟨#[32]⟩ : ByteArray)).size + D2.size ≤ 9223372036854775807 := by rw [ByteArray.size_append, ByteArray.size_append, ByteArray.size_append]; show _ + 1 + _ + 1 + _ ≤ _; omega
    clear hD1 hD2 hT hs0 hs1 hs2 hcc hc0 hc1 hk hn0 hn1 hm0 hm1
    have e1 : (k : Int) + 1 - 1 = (k : Int) := by omega
    have hk0 : (0 : Int) ≤ (k : Int) := by omega
    have hk1 : (k : Int) < 21 := by omega
    have HN := Lib.hid hnm
    clear hnm
    go_enter Try.func70, Try.ntmps70
    go_wp2_with (go_at_call 62; refine (within_any _ _ _ _).mono ?_; rintro e w' ⟨rfl, rfl⟩)
    rw [HN.out]
    generalize hx : (w.alloc _).alloc _ = x
    obtain ⟨bx, k1, k2⟩ := op_box2 hx
    clear hx k2
    have q1 := k1.2.1
    have HB := Lib.hid bx
    clear bx k1
    go_quiet (first | (go_at_call 69; first | (with_reducible exact Calls.quiet_of_same (HD1.out _)) | (with_reducible exact Calls.quiet_of_same (HD2.out _))))
    go_wp2
    go_ret
    refine ⟨?_, ?_⟩
    · rw [HT.out, ← HTT.out, HL1.out, HL2.out]
      simp only [← st_append]
      rfl
    · exact below_drewN HB.out nq
  · have hb : inB c 1 21 = false := by simpa using hb
    have HF := Lib.hid (show opTxt ⟨c, n, m⟩ = [] by unfold opTxt; rw [if_neg (by simpa [inB] using hb)])
    go_enter Try.func70, Try.ntmps70
    go_wp2_with (go_at_call 62; refine (within_any _ _ _ _).mono ?_; rintro e w' ⟨rfl, rfl⟩)
    go_ret
    exact ⟨by rw [HF.out]; rfl, (Below.refl _ _).alloc (Nat.le_refl _) _⟩

set_option maxHeartbeats 800000 in
theorem l13Names_any (w : World) :
    Calls Try.prog 113 #[] w fun e w' => e = .returned (.slice (some ⟨w.heap.size, 0, none⟩) 22 22) ∧ Below w.heap.size w w' ∧ w.heap.size < w'.heap.size ∧ ∀ k, k < 21 → w'.cell? ⟨w.heap.size, k + 1, none⟩ = some (.string (st (opL k))) := by
  go_enter Try.func113, Try.ntmps113
  go_wp2
  generalize hx : w.alloc _ = x
  obtain ⟨bx, k1⟩ := Bx.alloc hx
  go_ret
  exact ⟨rfl, bx, k1.1, fun k hk => (k1.2.1 (k + 1)).trans (names_at2 k hk)⟩

set_option maxHeartbeats 800000 in
set_option maxRecDepth 100000 in
theorem sOpText_any (o : O3) (w : World) (ho : o3In o) :
    Calls Try.prog 67 #[.agg #[.int .i64 o.c, .int .i64 o.n, .int .i64 o.m]] w fun e w' => e = .returned (.string (st (opTxt o))) ∧ Below w.heap.size w w' := by
  obtain ⟨c, n, m⟩ := o
  obtain ⟨⟨hc0, hc1⟩, ⟨hn0, hn1⟩, ⟨hm0, hm1⟩⟩ := ho
  dsimp only at hc0 hc1 hn0 hn1 hm0 hm1 ⊢
  by_cases hb : inB c 1 21 = true
  · have hcc : 1 ≤ c ∧ c ≤ 21 := by simpa [inB] using hb
    obtain ⟨k, hk⟩ : ∃ k : Nat, c - 1 = (k : Int) := ⟨(c - 1).toNat, by omega⟩
    obtain rfl : c = ((k + 1 : Nat) : Int) := by omega
    have hk21 : k < 21 := by omega
    have HT := Lib.hid (show opTxt ⟨((k + 1 : Nat) : Int), n, m⟩ = opL k ++ [32] ++ digL n ++ [32] ++ digL m by unfold opTxt; rw [if_pos hcc]; simp)
    have HD1 := Lib.hid (fun (W : World) => sDigits_any n W hn0 hn1)
    have HD2 := Lib.hid (fun (W : World) => sDigits_any m W hm0 hm1)
    have hs0 : (st (opL k)).size ≤ 5 := by rw [st_size]; exact opL_len k
    have hs1 := digs_size n
    have hs2 := digs_size m
    have HL1 := Lib.hid (show digs n = st (digL n) from rfl)
    have HL2 := Lib.hid (show digs m = st (digL m) from rfl)
    obtain ⟨D1, hD1⟩ : ∃ D, digs n = D := ⟨_, rfl⟩
    obtain ⟨D2, hD2⟩ : ∃ D, digs m = D := ⟨_, rfl⟩
    rw [hD1] at hs1 HL1 HD1
    rw [hD2] at hs2 HL2 HD2
    obtain ⟨T, hT⟩ : ∃ T, st (opL k) = T := ⟨_, rfl⟩
    rw [hT] at hs0
    have HTT := Lib.hid hT
    have hz1 : T.size + (⟨#[32]⟩ : ByteArray).size ≤ 9223372036854775807 := by show _ + 1 ≤ _; omega
    have hz2 : (T ++ (⟨#[32]⟩ : ByteArray)).size + D1.size ≤ 9223372036854775807 := by rw [ByteArray.size_append]; show _ + 1 + _ ≤ _; omega
    have hz3 : (T ++ (⟨#[32]⟩ : ByteArray) ++ D1).size + (⟨#[32]⟩ : ByteArray).size ≤ 9223372036854775807 := by rw [ByteArray.size_append, ByteArray.size_append]; show _ + 1 + _ + 1 ≤ _; omega
    have hz4 : (T ++ (⟨#[32]⟩ : ByteArray) ++ D1 ++ (⟨#[32]⟩ : ByteArray)).size + D2.size ≤ 9223372036854775807 := by rw [ByteArray.size_append, ByteArray.size_append, ByteArray.size_append]; show _ + 1 + _ + 1 + _ ≤ _; omega
    have ha1 := fun (W : World) => run_string_add_sum (P := Try.prog) W _ _ hz1
    have ha2 := fun (W : World) => run_string_add_sum (P := Try.prog) W _ _ hz2
    have ha3 := fun (W : World) => run_string_add_sum (P := Try.prog) W _ _ hz3
    have ha4 := fun (W : World) => run_string_add_sum (P := Try.prog) W _ _ hz4
    clear hD1 hD2 hT hs0 hs1 hs2 hcc hc0 hc1 hk hn0 hn1 hm0 hm1
    obtain ⟨K, hK⟩ : ∃ K, k + 1 = K := ⟨_, rfl⟩
    rw [hK] at hb HT ⊢
    have hk0 : (0 : Int) ≤ (K : Int) := by omega
    have hk1 : (K : Int) < 22 := by omega
    have HNM := Lib.hid (fun (W : World) => (l13Names_any W).mono (fun e w' h => And.intro h.1 (And.intro h.2.1 (And.intro h.2.2.1 (show w'.cell? ⟨W.heap.size, K, none⟩ = some (.string T) by rw [← hK, ← HTT.out]; exact h.2.2.2 k hk21)))))
    go_enter Try.func67, Try.ntmps67
    go_wp2_with (go_at_call 64; refine (l1In_any _ _ _ _).mono ?_; rintro e w' ⟨rfl, rfl⟩)
    generalize hx : w.alloc _ = x
    obtain ⟨bx, k1⟩ := Bx.alloc hx
    have hxz : x.heap.size = w.heap.size + 1 := by rw [← hx]; simp
    clear hx
    have HB := Lib.hid bx
    have HF := Lib.hid (Below.refl x.heap.size x)
    have q0 := k1.2.1 0
    have q1 := k1.2.1 1
    have q2 := k1.2.1 2
    simp at q0 q1 q2
    have l1 := k1.1
    clear bx k1
    refine wp_region_held_drew (S := (fun w' => w'.cell? ⟨w.heap.size, 0, none⟩ = some (.int .i64 K) ∧ w'.cell? ⟨w.heap.size, 1, none⟩ = some (.int .i64 n) ∧ w'.cell? ⟨w.heap.size, 2, none⟩ = some (.int .i64 m))) (by kernel_rfl) (by first | (dsimp only; exact ⟨q0, q1, q2⟩) | (exact ⟨q0, q1, q2⟩)) (fun hHeld => ?_)
    refine' wpAnyH_take (i := 1) (oi := _) (v := _) ?hi1n194 (by kernel_rfl) (by kernel_rfl) (by kernel_rfl) ?hQ1n194 ?hy1n194 (by assumption) ?rest1n194
    case hi1n194 => (simp only [List.getElem?_toArray, List.getElem?_cons_succ, List.getElem?_cons_zero]; rfl)
    case hQ1n194 => exact fun _ _ _ h => h
    case hy1n194 => exact Or.inl ⟨by rfl, by (intro w hSw; (try dsimp only at hSw); go_simp; (try with_reducible rfl))⟩
    try simp only [Act.put, List.setIfInBounds_toArray, List.set_cons_zero, List.set_cons_succ]
    refine' wpAnyH_take (i := 2) (oi := _) (v := _) ?hi2n194 (by kernel_rfl) (by kernel_rfl) (by kernel_rfl) ?hQ2n194 ?hy2n194 (by assumption) ?rest2n194
    case hi2n194 => (simp only [List.getElem?_toArray, List.getElem?_cons_succ, List.getElem?_cons_zero]; rfl)
    case hQ2n194 => exact fun _ _ _ h => h
    case hy2n194 => exact Or.inl ⟨by rfl, by (intro w hSw; (try dsimp only at hSw); go_simp; (try with_reducible rfl))⟩
    try simp only [Act.put, List.setIfInBounds_toArray, List.set_cons_zero, List.set_cons_succ]
    refine' wpAnyH_take (i := 6) (oi := _) (v := _) ?hi6n194 (by kernel_rfl) (by kernel_rfl) (by kernel_rfl) ?hQ6n194 ?hy6n194 (by assumption) ?rest6n194
    case hi6n194 => (simp only [List.getElem?_toArray, List.getElem?_cons_succ, List.getElem?_cons_zero]; rfl)
    case hQ6n194 => exact fun _ _ _ h => h
    case hy6n194 => exact Or.inl ⟨by rfl, by (intro w hSw; (try dsimp only at hSw); go_simp; (try with_reducible rfl))⟩
    try simp only [Act.put, List.setIfInBounds_toArray, List.set_cons_zero, List.set_cons_succ]
    refine' wpAnyH_take (i := 7) (oi := _) (v := _) ?hi7n194 (by kernel_rfl) (by kernel_rfl) (by kernel_rfl) ?hQ7n194 ?hy7n194 (by assumption) ?rest7n194
    case hi7n194 => (simp only [List.getElem?_toArray, List.getElem?_cons_succ, List.getElem?_cons_zero]; rfl)
    case hQ7n194 => exact fun _ _ _ h => h
    case hy7n194 => exact Or.inl ⟨by rfl, by (intro w hSw; (try dsimp only at hSw); go_simp; (try with_reducible rfl))⟩
    try simp only [Act.put, List.setIfInBounds_toArray, List.set_cons_zero, List.set_cons_succ]
    refine' wpAnyH_take (i := 11) (oi := _) (v := _) ?hi11n194 (by kernel_rfl) (by kernel_rfl) (by kernel_rfl) ?hQ11n194 ?hy11n194 (by assumption) ?rest11n194
    case hi11n194 => (simp only [List.getElem?_toArray, List.getElem?_cons_succ, List.getElem?_cons_zero]; rfl)
    case hQ11n194 => exact fun _ _ _ h => h
    case hy11n194 => exact Or.inl ⟨by rfl, by (intro w hSw; (try dsimp only at hSw); go_simp; (try with_reducible rfl))⟩
    try simp only [Act.put, List.setIfInBounds_toArray, List.set_cons_zero, List.set_cons_succ]
    refine' wpAnyH_take (i := 12) (oi := _) (v := _) ?hi12n194 (by kernel_rfl) (by kernel_rfl) (by kernel_rfl) ?hQ12n194 ?hy12n194 (by assumption) ?rest12n194
    case hi12n194 => (simp only [List.getElem?_toArray, List.getElem?_cons_succ, List.getElem?_cons_zero]; rfl)
    case hQ12n194 => exact fun _ _ _ h => h
    case hy12n194 => exact Or.inl ⟨by rfl, by (intro w hSw; (try dsimp only at hSw); go_simp; (try with_reducible rfl))⟩
    try simp only [Act.put, List.setIfInBounds_toArray, List.set_cons_zero, List.set_cons_succ]
    refine wpAnyH_ready (rs := [0]) (by kernel_rfl) (by simp) ?_
    refine AllReadyH.cons (by (simp only [List.getElem?_toArray, List.getElem?_cons_succ, List.getElem?_cons_zero]; rfl)) (fun K hK => ?_) AllReadyH.nil
    go_simp
    refine (HNM.out _).mono ?_
    rintro e w7 ⟨hu, b9, s9, c9⟩
    simp only [World.size_drew, hxz] at c9 s9
    subst hu
    dsimp only
    refine hK.out _ _ (by first | (dsimp only; exact ⟨(b9.cell (by simp only [World.size_drew]; omega)).trans q0, (b9.cell (by simp only [World.size_drew]; omega)).trans q1, (b9.cell (by simp only [World.size_drew]; omega)).trans q2⟩) | (exact ⟨(b9.cell (by simp only [World.size_drew]; omega)).trans q0, (b9.cell (by simp only [World.size_drew]; omega)).trans q1, (b9.cell (by simp only [World.size_drew]; omega)).trans q2⟩)) (fun hHeld => ?_)
    clear hK K
    try simp only [Act.put, List.setIfInBounds_toArray, List.set_cons_zero, List.set_cons_succ]
    have B7 := Lib.hid (HB.out.trans ((((Below.refl _ _).drew).trans b9).mono (by simp only [World.size_drew]; omega)))
    refine wpAnyH_up (S' := (fun (w' : World) => w'.cell? ⟨w.heap.size, 0, none⟩ = some (.int .i64 K) ∧ w'.cell? ⟨w.heap.size, 1, none⟩ = some (.int .i64 n) ∧ w'.cell? ⟨w.heap.size, 2, none⟩ = some (.int .i64 m) ∧ w'.cell? ⟨w.heap.size + 1, K, none⟩ = some (.string T))) (fun _ h => ⟨h.1, h.2.1, h.2.2.1⟩) _ _ _ _ ?_
    replace hHeld := (⟨hHeld.1, hHeld.2.1, hHeld.2.2, c9⟩ : w7.cell? ⟨w.heap.size, 0, none⟩ = some (.int .i64 K) ∧ w7.cell? ⟨w.heap.size, 1, none⟩ = some (.int .i64 n) ∧ w7.cell? ⟨w.heap.size, 2, none⟩ = some (.int .i64 m) ∧ w7.cell? ⟨w.heap.size + 1, K, none⟩ = some (.string T))
    clear b9 c9
    refine' wpAnyH_take (i := 3) (oi := _) (v := _) ?hi3n200 (by kernel_rfl) (by kernel_rfl) (by kernel_rfl) ?hQ3n200 ?hy3n200 (by assumption) ?rest3n200
    case hi3n200 => (simp only [List.getElem?_toArray, List.getElem?_cons_succ, List.getElem?_cons_zero]; rfl)
    case hQ3n200 => exact fun _ _ _ h => h
    case hy3n200 => exact Or.inl ⟨by rfl, by (intro w hSw; (try dsimp only at hSw); go_simp; (try with_reducible rfl))⟩
    try simp only [Act.put, List.setIfInBounds_toArray, List.set_cons_zero, List.set_cons_succ]
    refine' wpAnyH_take (i := 4) (oi := _) (v := _) ?hi4n200 (by kernel_rfl) (by kernel_rfl) (by kernel_rfl) ?hQ4n200 ?hy4n200 (by assumption) ?rest4n200
    case hi4n200 => (simp only [List.getElem?_toArray, List.getElem?_cons_succ, List.getElem?_cons_zero]; rfl)
    case hQ4n200 => exact fun _ _ _ h => h
    case hy4n200 => exact Or.inl ⟨by rfl, by (intro w hSw; (try dsimp only at hSw); go_simp; (try with_reducible rfl))⟩
    try simp only [Act.put, List.setIfInBounds_toArray, List.set_cons_zero, List.set_cons_succ]
    refine' wpAnyH_take (i := 5) (oi := _) (v := _) ?hi5n200 (by kernel_rfl) (by kernel_rfl) (by kernel_rfl) ?hQ5n200 ?hy5n200 (by assumption) ?rest5n200
    case hi5n200 => (simp only [List.getElem?_toArray, List.getElem?_cons_succ, List.getElem?_cons_zero]; rfl)
    case hQ5n200 => exact fun _ _ _ h => h
    case hy5n200 => exact Or.inl ⟨by rfl, by (intro w hSw; (try dsimp only at hSw); go_simp; (try with_reducible rfl))⟩
    try simp only [Act.put, List.setIfInBounds_toArray, List.set_cons_zero, List.set_cons_succ]
    refine wpAnyH_ready (rs := [8]) (by kernel_rfl) (by simp) ?_
    refine AllReadyH.cons (by (simp only [List.getElem?_toArray, List.getElem?_cons_succ, List.getElem?_cons_zero]; rfl)) (fun K hK => ?_) AllReadyH.nil
    go_simp
    refine (HD1.out _).mono ?_
    rintro e w8 ⟨hu, b9⟩
    subst hu
    dsimp only
    refine hK.out _ _ (by first | (dsimp only; exact ⟨(b9.cell (by dsimp only; omega)).trans hHeld.1, (b9.cell (by dsimp only; omega)).trans hHeld.2.1, (b9.cell (by dsimp only; omega)).trans hHeld.2.2.1, (b9.cell (by dsimp only; omega)).trans hHeld.2.2.2⟩) | (exact ⟨(b9.cell (by dsimp only; omega)).trans hHeld.1, (b9.cell (by dsimp only; omega)).trans hHeld.2.1, (b9.cell (by dsimp only; omega)).trans hHeld.2.2.1, (b9.cell (by dsimp only; omega)).trans hHeld.2.2.2⟩)) (fun hHeld => ?_)
    clear hK K
    try simp only [Act.put, List.setIfInBounds_toArray, List.set_cons_zero, List.set_cons_succ]
    have s8 := Nat.lt_of_lt_of_le s9 b9.size
    have B8 := Lib.hid (B7.out.trans (b9.mono (by omega)))
    clear b9 s9 B7
    refine' wpAnyH_take (i := 9) (oi := _) (v := _) ?hi9n205 (by kernel_rfl) (by kernel_rfl) (by kernel_rfl) ?hQ9n205 ?hy9n205 (by assumption) ?rest9n205
    case hi9n205 => (simp only [List.getElem?_toArray, List.getElem?_cons_succ, List.getElem?_cons_zero]; rfl)
    case hQ9n205 => exact fun _ _ _ h => h
    case hy9n205 => exact Or.inl ⟨by rfl, by (intro w hSw; (try dsimp only at hSw); go_simp; (try with_reducible rfl))⟩
    try simp only [Act.put, List.setIfInBounds_toArray, List.set_cons_zero, List.set_cons_succ]
    refine' wpAnyH_take (i := 10) (oi := _) (v := _) ?hi10n205 (by kernel_rfl) (by kernel_rfl) (by kernel_rfl) ?hQ10n205 ?hy10n205 (by assumption) ?rest10n205
    case hi10n205 => (simp only [List.getElem?_toArray, List.getElem?_cons_succ, List.getElem?_cons_zero]; rfl)
    case hQ10n205 => exact fun _ _ _ h => h
    case hy10n205 => exact Or.inl ⟨by rfl, by (intro w hSw; (try dsimp only at hSw); go_simp; (try with_reducible rfl))⟩
    try simp only [Act.put, List.setIfInBounds_toArray, List.set_cons_zero, List.set_cons_succ]
    refine wpAnyH_ready (rs := [13]) (by kernel_rfl) (by simp) ?_
    refine AllReadyH.cons (by (simp only [List.getElem?_toArray, List.getElem?_cons_succ, List.getElem?_cons_zero]; rfl)) (fun K hK => ?_) AllReadyH.nil
    go_simp
    refine (HD2.out _).mono ?_
    rintro e w9 ⟨hu, b9⟩
    subst hu
    dsimp only
    refine hK.out _ _ (by first | (dsimp only; exact ⟨(b9.cell (by dsimp only; omega)).trans hHeld.1, (b9.cell (by dsimp only; omega)).trans hHeld.2.1, (b9.cell (by dsimp only; omega)).trans hHeld.2.2.1, (b9.cell (by dsimp only; omega)).trans hHeld.2.2.2⟩) | (exact ⟨(b9.cell (by dsimp only; omega)).trans hHeld.1, (b9.cell (by dsimp only; omega)).trans hHeld.2.1, (b9.cell (by dsimp only; omega)).trans hHeld.2.2.1, (b9.cell (by dsimp only; omega)).trans hHeld.2.2.2⟩)) (fun hHeld => ?_)
    clear hK K
    try simp only [Act.put, List.setIfInBounds_toArray, List.set_cons_zero, List.set_cons_succ]
    have B9 := Lib.hid (B8.out.trans (b9.mono (by omega)))
    clear b9 B8
    refine' wpAnyH_take (i := 14) (oi := _) (v := _) ?hi14n209 (by kernel_rfl) (by kernel_rfl) (by kernel_rfl) ?hQ14n209 ?hy14n209 (by assumption) ?rest14n209
    case hi14n209 => (simp only [List.getElem?_toArray, List.getElem?_cons_succ, List.getElem?_cons_zero]; rfl)
    case hQ14n209 => exact fun _ _ _ h => h
    case hy14n209 => exact Or.inl ⟨by rfl, by (intro w hSw; (try dsimp only at hSw); go_simp; (try with_reducible rfl))⟩
    try simp only [Act.put, List.setIfInBounds_toArray, List.set_cons_zero, List.set_cons_succ]
    refine' wpAnyH_take (i := 15) (oi := _) (v := _) ?hi15n209 (by kernel_rfl) (by kernel_rfl) (by kernel_rfl) ?hQ15n209 ?hy15n209 (by assumption) ?rest15n209
    case hi15n209 => (simp only [List.getElem?_toArray, List.getElem?_cons_succ, List.getElem?_cons_zero]; rfl)
    case hQ15n209 => exact fun _ _ _ h => h
    case hy15n209 => exact Or.inl ⟨by rfl, by (intro w hSw; (try dsimp only at hSw); go_simp; (try with_reducible rfl))⟩
    try simp only [Act.put, List.setIfInBounds_toArray, List.set_cons_zero, List.set_cons_succ]
    refine wpAnyH_done (by kernel_rfl) ?_ _
    go_wp2
    go_ret
    refine ⟨?_, B9.out⟩
    rw [HT.out, ← HTT.out, HL1.out, HL2.out]
    simp only [← st_append]
    rfl
  · have hb : inB c 1 21 = false := by simpa using hb
    have HF := Lib.hid (show opTxt ⟨c, n, m⟩ = [] by unfold opTxt; rw [if_neg (by simpa [inB] using hb)])
    go_enter Try.func67, Try.ntmps67
    go_wp2_with (go_at_call 64; refine (l1In_any _ _ _ _).mono ?_; rintro e w' ⟨rfl, rfl⟩)
    go_ret
    exact ⟨by rw [HF.out]; rfl, (Below.refl _ _).alloc (Nat.le_refl _) _⟩

end Go.Proofs.Ytkpkofddfjgmpaa
