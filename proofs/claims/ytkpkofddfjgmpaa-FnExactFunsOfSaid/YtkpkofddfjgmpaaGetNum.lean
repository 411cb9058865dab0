/- GetNum of the program and of the reference: the number that begins at a place of bytes. -/
import Derived.Test.YtkpkofddfjgmpaaScalar
import Derived.Test.YtkpkofddfjgmpaaMem
namespace Go.Proofs.Ytkpkofddfjgmpaa
open Go.RowKit
set_option linter.unusedVariables false

/-- f rounds are left, k are done, n is what was read till then. -/
def getGo (b : List Int) (i : Int) : Nat → Nat → Int → Int × Int × Bool
  | 0, _, _ => (0, 0, false)
  | f + 1, k, n =>
    if i + k < b.length then
      if b.getD (i.toNat + k) 0 < 128 then
        (if 2147483647 < n + b.getD (i.toNat + k) 0 % 128 * 128 ^ k ∨ (b.getD (i.toNat + k) 0 = 0 ∧ 0 < k) then (0, 0, false) else (n + b.getD (i.toNat + k) 0 % 128 * 128 ^ k, i + k + 1, true))
      else getGo b i f (k + 1) (n + b.getD (i.toNat + k) 0 % 128 * 128 ^ k)
    else (0, 0, false)
def getNum (b : List Int) (i : Int) : Int × Int × Bool := if inB i 0 (b.length - 1) then getGo b i 5 0 0 else (0, 0, false)

def trip (r : Int × Int × Bool) : Value := .tuple #[.int .i64 r.1, .int .i64 r.2.1, .bool r.2.2]

theorem getGo_in {b : List Int} {i : Int} {f k : Nat} {n c N : Int} (h : i + k < b.length) (hc : b.getD (i.toNat + k) 0 = c) (hN : n + c % 128 * 128 ^ k = N) :
    getGo b i (f + 1) k n = if c < 128 then (if 2147483647 < N ∨ (c = 0 ∧ 0 < k) then (0, 0, false) else (N, i + k + 1, true)) else getGo b i f (k + 1) N := by
  subst hc; subst hN; rw [getGo, if_pos h]
theorem getGo_out {b : List Int} {i : Int} {f k : Nat} {n : Int} (h : ¬ (i + k < b.length)) : getGo b i (f + 1) k n = (0, 0, false) := by rw [getGo, if_neg h]
theorem getGo_bound {k : Nat} {n x : Int} (h0 : 0 ≤ n) (h1 : n < 128 ^ k) (x0 : 0 ≤ x) (x1 : x < 128) : 0 ≤ n + x * 128 ^ k ∧ n + x * 128 ^ k < 128 ^ (k + 1) := by
  have hp : (0 : Int) < 128 ^ k := Int.pow_pos (by decide)
  rw [Int.pow_succ]
  generalize (128 : Int) ^ k = p at h1 hp ⊢
  have h2 : x * p ≤ 127 * p := Int.mul_le_mul_of_nonneg_right (by omega) (by omega)
  have h3 : 0 ≤ x * p := Int.mul_nonneg x0 (by omega)
  omega

def bytesOk (b : List Int) : Prop := ∀ j, 0 ≤ b.getD j 0 ∧ b.getD j 0 ≤ 255

theorem bytesOk_wf {b : List Int} (h : ∀ n ∈ b, (Lit.int .u8 n).wf = true) : bytesOk b := by
  intro j
  have := range_u8 h j
  simpa [List.getD] using this

set_option maxHeartbeats 400000 in
theorem iGetNum_any {B : Nat} (v : Value) (b : List Int) (i : Int) (w : World) (hr : Rd B .u8 w v b) (hb : bytesOk b) (hi0 : -9223372036854775808 ≤ i) (hi1 : i ≤ 9223372036854775807) (hn : b.length ≤ 4294967296) :
    Calls Try.prog 121 #[v, .int .i64 i] w fun e w' => e = .returned (trip (getNum b i)) ∧ Still w w' := by
  cases hw : inB i 0 (b.length - 1)
  · have he : getNum b i = (0, 0, false) := by simp [getNum, hw]
    have HE := Lib.hid he
    clear he
    have hv : ∃ a n cap, v = .slice a n cap ∧ n = b.length := by
      rcases hr with ⟨rfl, a, cap, rfl⟩ | ⟨b', off, cap, rfl, _⟩
      · exact ⟨_, _, _, rfl, rfl⟩
      · exact ⟨_, _, _, rfl, rfl⟩
    obtain ⟨a, n, cap, rfl, rfl⟩ := hv
    clear hr
    go_enter Try.func121, Try.ntmps121
    go_wp2_with (go_at_call 62; refine (within_any _ _ _ _).mono ?_; rintro e w' ⟨rfl, rfl⟩)
    go_ret3
    rw [HE.out]
    exact ⟨rfl, Still.refl _⟩
  · obtain ⟨h0, h1⟩ := inB_true.1 hw
    have he : getNum b i = getGo b i 5 0 0 := by simp [getNum, hw]
    have HE := Lib.hid he
    clear he
    obtain ⟨m, rfl⟩ := Int.eq_ofNat_of_zero_le h0
    rcases hr with ⟨rfl, a, cap, rfl⟩ | ⟨bl, off, cap, rfl, hB, hbs, _, hc⟩
    · simp at h1; omega
    go_enter Try.func121, Try.ntmps121
    go_wp2_with (go_at_call 62; refine (within_any _ _ _ _).mono ?_; rintro e w' ⟨rfl, rfl⟩)
    go_loopw [7, 8, 9] (fun q i _ wr => ∃ (k : Nat) (n : Int), k ≤ 5 ∧ i = .int .i64 k ∧ q = .int .i64 n ∧ 0 ≤ n ∧ n < 128 ^ k ∧ Hid (getGo b m (5 - k) k n = getGo b m 5 0 0) ∧ wr = w) (fun _ i _ _ => 5 - (intOf i).toNat)
    case atStart => exact ⟨0, 0, by omega, rfl, rfl, by omega, by simp, rfl, rfl⟩
    case round =>
      obtain ⟨k, n, hk, rfl, rfl, hn0, hn1, hg, rfl⟩ := hrel
      by_cases h5 : k < 5
      · by_cases hin : m + k < b.length
        · have c1 := hc (m + k) hin
          have hb1 := (hb (m + k)).1
          have hb2 := (hb (m + k)).2
          obtain ⟨c, hcc⟩ : ∃ c, b.getD (m + k) 0 = c := ⟨_, rfl⟩
          rw [hcc] at c1 hb1 hb2
          have HC := Lib.hid hcc
          clear hc hb hcc
          obtain ⟨N, hN⟩ : ∃ N, n + c % 128 * 128 ^ k = N := ⟨_, rfl⟩
          have e1 := or_shift k h5 n (c % 128) hn0 hn1 (by omega) (by omega)
          have hNb := getGo_bound hn0 hn1 (show 0 ≤ c % 128 by omega) (by omega)
          rw [hN] at e1 hNb
          have hs := hg.out
          rw [show 5 - k = (4 - k) + 1 from by omega, getGo_in (by omega) HC.out hN] at hs
          have HS := Lib.hid hs
          obtain ⟨hN0, hN1⟩ := hNb
          clear hg hN hs
          by_cases hcl : c < 128
          · by_cases hc0 : c = 0
            · subst hc0
              rw [show (0 : Int) % 128 * 2 ^ (7 * k) = 0 from by simp] at e1
              have e2 : bits .or .i64 n 0 = N := by rw [show wrap64 0 = 0 from by unfold wrap64; omega] at e1; exact e1
              by_cases hbig : 2147483647 < N
              · go_wp2
                all_goals
                  go_ret3
                  rw [HE.out, ← HS.out, if_pos hcl, if_pos (by first | omega | exact Or.inr ⟨trivial, hk0⟩)]
                  exact ⟨rfl, Still.refl _⟩
              · by_cases hk0 : 0 < k
                · go_wp2
                  all_goals
                    go_ret3
                    rw [HE.out, ← HS.out, if_pos hcl, if_pos (by first | omega | exact Or.inr ⟨trivial, hk0⟩)]
                    exact ⟨rfl, Still.refl _⟩
                · go_wp2
                  all_goals
                    go_ret3
                    rw [HE.out, ← HS.out, if_pos hcl, if_neg (by omega)]
                    exact ⟨rfl, Still.refl _⟩
            · by_cases hbig : 2147483647 < N
              · go_wp2
                all_goals
                  go_ret3
                  rw [HE.out, ← HS.out, if_pos hcl, if_pos (by first | omega | exact Or.inr ⟨trivial, hk0⟩)]
                  exact ⟨rfl, Still.refl _⟩
              · go_wp2
                all_goals
                  go_ret3
                  rw [HE.out, ← HS.out, if_pos hcl, if_neg (by omega)]
                  exact ⟨rfl, Still.refl _⟩
          · have hs := HS.out
            rw [if_neg hcl] at hs
            have HT := Lib.hid hs
            clear hs HS
            go_wp2
            go_roundw
            case rel => exact ⟨k + 1, N, by omega, by go_num, rfl, hN0, hN1, by show _ = _; rw [← HT.out]; rw [show 5 - (k + 1) = 4 - k from by omega], by trivial⟩
            case measure => simp [intOf]; omega
        · have hs := hg.out
          rw [show 5 - k = (4 - k) + 1 from by omega, getGo_out (by omega)] at hs
          have HS := Lib.hid hs
          clear hs hg
          go_wp2
          all_goals
            go_ret3
            rw [HE.out, ← HS.out]
            exact ⟨rfl, Still.refl _⟩
      · have hs := hg.out
        rw [show 5 - k = 0 from by omega, getGo] at hs
        have HS := Lib.hid hs
        clear hs hg
        go_wp2
        all_goals
          go_ret3
          rw [HE.out, ← HS.out]
          exact ⟨rfl, Still.refl _⟩

set_option maxHeartbeats 400000 in
theorem sGetNum_any {B : Nat} (v : Value) (b : List Int) (i : Int) (w : World) (hr : Rd B .u8 w v b) (hb : bytesOk b) (hi0 : -9223372036854775808 ≤ i) (hi1 : i ≤ 9223372036854775807) (hn : b.length ≤ 4294967296) :
    Calls Try.prog 120 #[v, .int .i64 i] w fun e w' => e = .returned (trip (getNum b i)) ∧ Still w w' := by
  cases hw : inB i 0 (b.length - 1)
  · have he : getNum b i = (0, 0, false) := by simp [getNum, hw]
    have HE := Lib.hid he
    clear he
    have hv : ∃ a n cap, v = .slice a n cap ∧ n = b.length := by
      rcases hr with ⟨rfl, a, cap, rfl⟩ | ⟨b', off, cap, rfl, _⟩
      · exact ⟨_, _, _, rfl, rfl⟩
      · exact ⟨_, _, _, rfl, rfl⟩
    obtain ⟨a, n, cap, rfl, rfl⟩ := hv
    clear hr
    have hout := inB_false.1 hw
    by_cases hneg : i < 0
    · go_enter Try.func120, Try.ntmps120
      go_wp2
      refine wp_loop_rounds 1 ?_
      rw [rounds_succ]
      go_wp2
      go_ret3
      rw [HE.out]
      exact ⟨rfl, Still.refl _⟩
    have hge : (b.length : Int) ≤ i := by omega
    clear hout
    go_enter Try.func120, Try.ntmps120
    go_wp2
    refine wp_loop_rounds 1 ?_
    rw [rounds_succ]
    go_wp2
    go_ret3
    rw [HE.out]
    exact ⟨rfl, Still.refl _⟩
  · obtain ⟨h0, h1⟩ := inB_true.1 hw
    have he : getNum b i = getGo b i 5 0 0 := by simp [getNum, hw]
    have HE := Lib.hid he
    clear he
    obtain ⟨m, rfl⟩ := Int.eq_ofNat_of_zero_le h0
    rcases hr with ⟨rfl, a, cap, rfl⟩ | ⟨bl, off, cap, rfl, hB, hbs, _, hc⟩
    · simp at h1; omega
    go_enter Try.func120, Try.ntmps120
    go_wp2
    go_loopw [7, 8, 9] (fun q i _ wr => ∃ (k : Nat) (n : Int), k ≤ 5 ∧ i = .int .i64 k ∧ q = .int .i64 n ∧ 0 ≤ n ∧ n < 128 ^ k ∧ Hid (getGo b m (5 - k) k n = getGo b m 5 0 0) ∧ wr = w) (fun _ i _ _ => 5 - (intOf i).toNat)
    case atStart => exact ⟨0, 0, by omega, rfl, rfl, by omega, by simp, rfl, rfl⟩
    case round =>
      obtain ⟨k, n, hk, rfl, rfl, hn0, hn1, hg, rfl⟩ := hrel
      by_cases h5 : k < 5
      · by_cases hin : m + k < b.length
        · have c1 := hc (m + k) hin
          have hb1 := (hb (m + k)).1
          have hb2 := (hb (m + k)).2
          obtain ⟨c, hcc⟩ : ∃ c, b.getD (m + k) 0 = c := ⟨_, rfl⟩
          rw [hcc] at c1 hb1 hb2
          have HC := Lib.hid hcc
          clear hc hb hcc
          obtain ⟨N, hN⟩ : ∃ N, n + c % 128 * 128 ^ k = N := ⟨_, rfl⟩
          have e1 := or_shift k h5 n (c % 128) hn0 hn1 (by omega) (by omega)
          have hNb := getGo_bound hn0 hn1 (show 0 ≤ c % 128 by omega) (by omega)
          rw [hN] at e1 hNb
          have hs := hg.out
          rw [show 5 - k = (4 - k) + 1 from by omega, getGo_in (by omega) HC.out hN] at hs
          have HS := Lib.hid hs
          obtain ⟨hN0, hN1⟩ := hNb
          clear hg hN hs
          by_cases hcl : c < 128
          · by_cases hc0 : c = 0
            · subst hc0
              rw [show (0 : Int) % 128 * 2 ^ (7 * k) = 0 from by simp] at e1
              have e2 : bits .or .i64 n 0 = N := by rw [show wrap64 0 = 0 from by unfold wrap64; omega] at e1; exact e1
              by_cases hbig : 2147483647 < N
              · go_wp2
                all_goals
                  go_ret3
                  rw [HE.out, ← HS.out, if_pos hcl, if_pos (by first | omega | exact Or.inr ⟨trivial, hk0⟩)]
                  exact ⟨rfl, Still.refl _⟩
              · by_cases hk0 : 0 < k
                · go_wp2
                  all_goals
                    go_ret3
                    rw [HE.out, ← HS.out, if_pos hcl, if_pos (by first | omega | exact Or.inr ⟨trivial, hk0⟩)]
                    exact ⟨rfl, Still.refl _⟩
                · go_wp2
                  all_goals
                    go_ret3
                    rw [HE.out, ← HS.out, if_pos hcl, if_neg (by omega)]
                    exact ⟨rfl, Still.refl _⟩
            · by_cases hbig : 2147483647 < N
              · go_wp2
                all_goals
                  go_ret3
                  rw [HE.out, ← HS.out, if_pos hcl, if_pos (by first | omega | exact Or.inr ⟨trivial, hk0⟩)]
                  exact ⟨rfl, Still.refl _⟩
              · go_wp2
                all_goals
                  go_ret3
                  rw [HE.out, ← HS.out, if_pos hcl, if_neg (by omega)]
                  exact ⟨rfl, Still.refl _⟩
          · have hs := HS.out
            rw [if_neg hcl] at hs
            have HT := Lib.hid hs
            clear hs HS
            go_wp2
            go_roundw
            case rel => exact ⟨k + 1, N, by omega, by go_num, rfl, hN0, hN1, by show _ = _; rw [← HT.out]; rw [show 5 - (k + 1) = 4 - k from by omega], by trivial⟩
            case measure => simp [intOf]; omega
        · have hs := hg.out
          rw [show 5 - k = (4 - k) + 1 from by omega, getGo_out (by omega)] at hs
          have HS := Lib.hid hs
          clear hs hg
          go_wp2
          all_goals
            go_ret3
            rw [HE.out, ← HS.out]
            exact ⟨rfl, Still.refl _⟩
      · have hs := hg.out
        rw [show 5 - k = 0 from by omega, getGo] at hs
        have HS := Lib.hid hs
        clear hs hg
        go_wp2
        all_goals
          go_ret3
          rw [HE.out, ← HS.out]
          exact ⟨rfl, Still.refl _⟩

end Go.Proofs.Ytkpkofddfjgmpaa
