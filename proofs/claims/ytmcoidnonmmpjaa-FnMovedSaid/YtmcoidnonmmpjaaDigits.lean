/- Digits of the program and of the reference. -/
import Derived.Test.YtmcoidnonmmpjaaRows
import Derived.Test.YtmcoidnonmmpjaaDigP
import Derived.Laws.BytesArg
namespace Go.Proofs.Ytmcoidnonmmpjaa
open Go.RowKit
set_option linter.unusedVariables false

theorem enc_dig {n : Nat} (h : n < 10) : Utf8.encode (48 + (n : Int)) = st [dig n] := by
  obtain rfl | rfl | rfl | rfl | rfl | rfl | rfl | rfl | rfl | rfl : n = 0 ∨ n = 1 ∨ n = 2 ∨ n = 3 ∨ n = 4 ∨ n = 5 ∨ n = 6 ∨ n = 7 ∨ n = 8 ∨ n = 9 := by omega
  all_goals rfl

set_option maxHeartbeats 400000 in
theorem iDigits_nat : ∀ (f n : Nat) (w : World), n < 10 ^ (f + 1) → f ≤ 30 → n ≤ 9223372036854775807 →
    Calls Try.prog 66 #[.int .i64 n] w fun e w' => e = .returned (.string (st (digF (f + 1) n))) ∧ w = w' := by
  intro f
  induction f with
  | zero =>
    intro n w h1 h2 h3
    have h1' : n < 10 := by simpa using h1
    have HD := Lib.hid (show Utf8.encode (48 + (n : Int)) = st (digF (0 + 1) n) by rw [digF_lt h1', enc_dig h1'])
    clear h1
    have e0 : decide ((n : Int) < 0) = false := by simp
    have e1 : decide ((n : Int) < 10) = true := by simp; omega
    go_enter Try.func66, Try.ntmps66
    go_wp2
    go_ret
    exact ⟨by rw [← HD.out]; rfl, rfl⟩
  | succ f ih =>
    intro n w h1 h2 h3
    by_cases h10 : n < 10
    · have HD := Lib.hid (show Utf8.encode (48 + (n : Int)) = st (digF (f + 1 + 1) n) by rw [digF_lt h10, enc_dig h10])
      clear h1 ih
      have e0 : decide ((n : Int) < 0) = false := by simp
      have e1 : decide ((n : Int) < 10) = true := by simp; omega
      go_enter Try.func66, Try.ntmps66
      go_wp2
      go_ret
      exact ⟨by rw [← HD.out]; rfl, rfl⟩
    · have HC := Lib.hid (ih (n / 10) w (by rw [Nat.pow_succ] at h1; omega) (by omega) (by omega))
      have hs : (st (digF (f + 1) (n / 10))).size ≤ 31 := by rw [st_size]; have := digF_len (f + 1) (n / 10); omega
      obtain ⟨m, hm⟩ : ∃ m, n / 10 = m := ⟨_, rfl⟩
      obtain ⟨d, hd⟩ : ∃ d, n % 10 = d := ⟨_, rfl⟩
      have hd10 : d < 10 := by omega
      have he := enc_dig hd10
      have hst : st (digF (f + 1) m) ++ Utf8.encode (48 + (d : Int)) = st (digF (f + 1 + 1) n) := by rw [he, st_append, digF_ge h10, hm, hd]
      have hes : (Utf8.encode (48 + (d : Int))).size ≤ 1 := by rw [he, st_size]; simp
      have hq : (n : Int) / 10 = (m : Int) := by omega
      have hr : (n : Int) % 10 = (d : Int) := by omega
      rw [hm] at HC hs
      obtain ⟨S, hS⟩ : ∃ S, st (digF (f + 1) m) = S := ⟨_, rfl⟩
      rw [hS] at HC hs hst
      have HST := Lib.hid hst
      have HQ := Lib.hid hq
      clear h1 ih hm hd he hst hS hq
      have e0 : decide ((n : Int) < 0) = false := by simp
      have e1 : decide ((n : Int) < 10) = false := by simp; omega
      have HR := Lib.hid hr
      clear hr
      go_enter Try.func66, Try.ntmps66
      go_wp2_with fail
      rw [HQ.out]
      refine HC.out.mono ?_
      rintro e w' ⟨rfl, rfl⟩
      have hr := HR.out
      go_wp2
      go_ret
      exact ⟨by rw [← HST.out]; rfl, rfl⟩

set_option maxHeartbeats 400000 in
theorem iDigits_neg : ∀ (f m : Nat) (w : World), m < 10 ^ (f + 1) → f ≤ 30 → 0 < m → m ≤ 9223372036854775808 →
    Calls Try.prog 66 #[.int .i64 (-(m : Int))] w fun e w' => e = .returned (.string (st (45 :: digF (f + 1) m))) ∧ w = w' := by
  intro f
  induction f with
  | zero =>
    intro m w h1 h2 hm0 h3
    have h10 : m < 10 := by simpa using h1
    have HC := Lib.hid (iDigits_nat 0 m w h1 (by omega) (by omega))
    have hs : (st (digF (0 + 1) m)).size ≤ 31 := by rw [st_size]; have := digF_len (0 + 1) m; omega
    have hst : (⟨#[45]⟩ : ByteArray) ++ st (digF (0 + 1) m) = st (45 :: digF (0 + 1) m) := st_45 _
    obtain ⟨S, hS⟩ : ∃ S, st (digF (0 + 1) m) = S := ⟨_, rfl⟩
    rw [hS] at HC hs hst
    have HST := Lib.hid hst
    clear hS hst h1
    have e1 : decide ((m : Int) < 10) = true := by simp; omega
    have hsz : (⟨#[45]⟩ : ByteArray).size + S.size ≤ 9223372036854775807 := by show 1 + S.size ≤ _; omega
    go_enter Try.func66, Try.ntmps66
    go_wp2_with fail
    refine HC.out.mono ?_
    rintro e w' ⟨rfl, rfl⟩
    go_wp2
    go_ret
    exact ⟨by rw [← HST.out]; rfl, rfl⟩
  | succ f ih =>
    intro m w h1 h2 hm0 h3
    by_cases h10 : m < 10
    · have HC := Lib.hid (iDigits_nat 0 m w (by simpa using h10) (by omega) (by omega))
      have hs : (st (digF (0 + 1) m)).size ≤ 31 := by rw [st_size]; have := digF_len (0 + 1) m; omega
      have hst : (⟨#[45]⟩ : ByteArray) ++ st (digF (0 + 1) m) = st (45 :: digF (f + 1 + 1) m) := by rw [st_45, digF_lt h10, digF_lt h10]
      obtain ⟨S, hS⟩ : ∃ S, st (digF (0 + 1) m) = S := ⟨_, rfl⟩
      rw [hS] at HC hs hst
      have HST := Lib.hid hst
      clear hS hst h1 ih
      have e1 : decide ((m : Int) < 10) = true := by simp; omega
      have hsz : (⟨#[45]⟩ : ByteArray).size + S.size ≤ 9223372036854775807 := by show 1 + S.size ≤ _; omega
      go_enter Try.func66, Try.ntmps66
      go_wp2_with fail
      refine HC.out.mono ?_
      rintro e w' ⟨rfl, rfl⟩
      go_wp2
      go_ret
      exact ⟨by rw [← HST.out]; rfl, rfl⟩
    · have HC := Lib.hid (ih (m / 10) w (by rw [Nat.pow_succ] at h1; omega) (by omega) (by omega) (by omega))
      have HN := Lib.hid (iDigits_nat 0 (m % 10) w (by simp; omega) (by omega) (by omega))
      have hs : (st (45 :: digF (f + 1) (m / 10))).size ≤ 32 := by rw [st_size]; have := digF_len (f + 1) (m / 10); simp; omega
      have hs2 : (st (digF (0 + 1) (m % 10))).size ≤ 32 := by rw [st_size]; have := digF_len (0 + 1) (m % 10); omega
      have hst : st (45 :: digF (f + 1) (m / 10)) ++ st (digF (0 + 1) (m % 10)) = st (45 :: digF (f + 1 + 1) m) := by rw [st_append, digF_ge h10, digF_lt (f := 0) (n := m % 10) (by omega)]; rfl
      obtain ⟨S, hS⟩ : ∃ S, st (45 :: digF (f + 1) (m / 10)) = S := ⟨_, rfl⟩
      obtain ⟨T, hT⟩ : ∃ T, st (digF (0 + 1) (m % 10)) = T := ⟨_, rfl⟩
      rw [hS] at HC hs hst
      rw [hT] at HN hs2 hst
      have HST := Lib.hid hst
      have HQ := Lib.hid (show (m : Int) / 10 = ((m / 10 : Nat) : Int) by omega)
      have HR := Lib.hid (show (m : Int) % 10 = ((m % 10 : Nat) : Int) by omega)
      clear hS hT hst h1 ih
      have e1 : decide ((m : Int) < 10) = false := by simp; omega
      go_enter Try.func66, Try.ntmps66
      go_wp2_with fail
      rw [HQ.out]
      refine HC.out.mono ?_
      rintro e w' ⟨rfl, rfl⟩
      go_wp2_with fail
      rw [HR.out]
      refine HN.out.mono ?_
      rintro e w' ⟨rfl, rfl⟩
      go_wp2
      go_ret
      exact ⟨by rw [← HST.out]; rfl, rfl⟩

set_option maxHeartbeats 400000 in
theorem iDigits_any (n : Int) (w : World) (h0 : -9223372036854775808 ≤ n) (h1 : n ≤ 9223372036854775807) :
    Calls Try.prog 66 #[.int .i64 n] w fun e w' => e = .returned (.string (digs n)) ∧ w = w' := by
  by_cases hn : 0 ≤ n
  · obtain ⟨m, rfl⟩ := Int.eq_ofNat_of_zero_le hn
    have := iDigits_nat 19 m w (by omega) (by omega) (by omega)
    unfold digs
    rw [digL_nat]
    exact this
  · obtain ⟨m, hm⟩ : ∃ m : Nat, n = -(m : Int) := ⟨n.natAbs, by omega⟩
    subst hm
    have := iDigits_neg 19 m w (by omega) (by omega) (by omega) (by omega)
    unfold digs
    rw [digL_neg (by omega)]
    exact this

/-- no digits at 0. -/
def digZ (r : Nat) : List UInt8 := if r = 0 then [] else digF 20 r
theorem digZ_step {r : Nat} (h : 0 < r) (hr : r < 10 ^ 20) : digZ r = digZ (r / 10) ++ [dig (r % 10)] := by
  unfold digZ
  rw [if_neg (by omega)]
  by_cases h10 : r < 10
  · rw [if_pos (by omega), digF_lt h10, show r % 10 = r by omega]; rfl
  · rw [if_neg (by omega), digF_step h10 hr]
theorem digZ_len (r : Nat) : (digZ r).length ≤ 20 := by
  unfold digZ
  split
  · simp
  · exact digF_len 20 r

theorem nums_dig {d : Nat} (h : d < 10) : strOfNums [48 + (d : Int)] = st [dig d] := by
  obtain rfl | rfl | rfl | rfl | rfl | rfl | rfl | rfl | rfl | rfl : d = 0 ∨ d = 1 ∨ d = 2 ∨ d = 3 ∨ d = 4 ∨ d = 5 ∨ d = 6 ∨ d = 7 ∨ d = 8 ∨ d = 9 := by omega
  all_goals rfl
theorem run_dig {d : Nat} (h : d < 10) (w : World) : (convert 22 9 (.slice (some ⟨w.heap.size, 0, none⟩) 1 1)).run Try.prog (w.alloc (.cells #[.int .u8 (48 + (d : Int))] 5)) = .ok (.string (st [dig d])) (w.alloc (.cells #[.int .u8 (48 + (d : Int))] 5)) := by
  rw [← nums_dig h]
  exact run_convert_bytes_arg (P := Try.prog) _ 22 5 Try.underlying22 Try.underlying5 w.heap.size 0 1 1 [48 + (d : Int)] rfl (fun i hi => by
    obtain rfl : i = 0 := by omega
    rw [World.cell?_alloc_at _ _ _ _ rfl]
    rfl) 9 Try.underlying9

set_option maxHeartbeats 800000 in
set_option maxRecDepth 100000 in
theorem sDigits_pos (m : Nat) (w : World) (h0 : 0 < m) (h1 : m ≤ 9223372036854775807) :
    Calls Try.prog 70 #[.int .i64 m] w fun e w' => e = .returned (.string (st (digF 20 m))) ∧ Below w.heap.size w w' := by
  have HZ := Lib.hid (show digZ m = digF 20 m by unfold digZ; rw [if_neg (by omega)])
  have hlen := digF_len 20 m
  obtain ⟨D, hD⟩ : ∃ D, digF 20 m = D := ⟨_, rfl⟩
  rw [hD] at hlen HZ ⊢
  clear hD
  have e0 : ((m : Int) == 0) = false := by simp; omega
  have e3 : decide ((m : Int) < 0) = false := by simp
  go_enter Try.func70, Try.ntmps70
  go_wp2
  go_loopw [0, 4] (fun i t wr => ∃ (r : Nat) (acc : List UInt8), i = .int .i64 r ∧ t = .string (st acc) ∧ r ≤ 9223372036854775807 ∧ Hid (digZ r ++ acc = D) ∧ Below w.heap.size w wr) (fun i _ _ => (intOf i).toNat)
  case atStart => exact ⟨m, [], rfl, rfl, h1, Lib.hid (by rw [List.append_nil]; exact HZ.out), Below.refl _ _⟩
  case round =>
    obtain ⟨r, acc, rfl, rfl, hr, hacc, hb⟩ := hrel
    have hal : acc.length ≤ 20 := by have := congrArg List.length hacc.out; rw [List.length_append] at this; omega
    by_cases hr0 : 0 < r
    · have e1 : ((r : Int) != 0) = true := by simp; omega
      obtain ⟨d, hd⟩ : ∃ d, r % 10 = d := ⟨_, rfl⟩
      have hd10 : d < 10 := by omega
      have hq : (r : Int) % 10 = (d : Int) := by omega
      have HDS := Lib.hid (digZ_step hr0 (by omega))
      have HD := Lib.hid hd
      clear hd
      have hconv := run_dig hd10 wr
      have e2 : decide ((d : Int) < 0) = false := by simp
      have hsz : (st [dig d]).size + (st acc).size ≤ 9223372036854775807 := by rw [st_size, st_size]; simp; omega
      have hbb := (hb.alloc (by exact hb.size) (.cells #[.int .u8 (48 + (d : Int))] 5))
      have HR2 := Lib.hid (show (r : Int) / 10 = ((r / 10 : Nat) : Int) by omega)
      have HBB := Lib.hid hbb
      clear hb hbb
      go_wp2
      go_roundw
      case rel => exact ⟨r / 10, [dig d] ++ acc, by rw [HR2.out], by rw [st_append], by omega, Lib.hid (by rw [← hacc.out, HDS.out, HD.out, List.append_assoc]), HBB.out⟩
      case measure => simp [intOf]; omega
    · obtain rfl : r = 0 := by omega
      have HA := Lib.hid (show acc = D from hacc.out)
      clear hacc
      go_wp2
      go_ret
      exact ⟨by rw [← HA.out]; rfl, hb⟩

set_option maxHeartbeats 800000 in
set_option maxRecDepth 100000 in
theorem sDigits_neg (m : Nat) (w : World) (h0 : 0 < m) (h1 : m ≤ 9223372036854775808) :
    Calls Try.prog 70 #[.int .i64 (-(m : Int))] w fun e w' => e = .returned (.string (st (45 :: digF 20 m))) ∧ Below w.heap.size w w' := by
  have HZ := Lib.hid (show digZ m = digF 20 m by unfold digZ; rw [if_neg (by omega)])
  have hlen := digF_len 20 m
  obtain ⟨D, hD⟩ : ∃ D, digF 20 m = D := ⟨_, rfl⟩
  rw [hD] at hlen HZ ⊢
  clear hD
  have e0 : (-(m : Int) == 0) = false := by simp; omega
  have e3 : decide (-(m : Int) < 0) = true := by simp; omega
  go_enter Try.func70, Try.ntmps70
  go_wp2
  go_loopw [0, 4] (fun i t wr => ∃ (r : Nat) (acc : List UInt8), i = .int .i64 (-(r : Int)) ∧ t = .string (st acc) ∧ r ≤ 9223372036854775808 ∧ Hid (digZ r ++ acc = D) ∧ Below w.heap.size w wr) (fun i _ _ => (-(intOf i)).toNat)
  case atStart => exact ⟨m, [], rfl, rfl, h1, Lib.hid (by rw [List.append_nil]; exact HZ.out), Below.refl _ _⟩
  case round =>
    obtain ⟨r, acc, rfl, rfl, hr, hacc, hb⟩ := hrel
    have hal : acc.length ≤ 20 := by have := congrArg List.length hacc.out; rw [List.length_append] at this; omega
    by_cases hr0 : 0 < r
    · have e1 : (-(r : Int) != 0) = true := by simp; omega
      obtain ⟨d, hd⟩ : ∃ d, r % 10 = d := ⟨_, rfl⟩
      have hd10 : d < 10 := by omega
      have hq : (r : Int) % 10 = (d : Int) := by omega
      have HDS := Lib.hid (digZ_step hr0 (by omega))
      have HD := Lib.hid hd
      clear hd
      have e2 : decide ((d : Int) < 0) = false := by simp
      have hsz : (st [dig d]).size + (st acc).size ≤ 9223372036854775807 := by rw [st_size, st_size]; simp; omega
      have HR2 := Lib.hid (show (r : Int) / 10 = ((r / 10 : Nat) : Int) by omega)
      by_cases hd0 : 0 < d
      · have hconv := run_dig hd10 wr
        have hbb := (hb.alloc (by exact hb.size) (.cells #[.int .u8 (48 + (d : Int))] 5))
        have HBB := Lib.hid hbb
        clear hb hbb
        go_wp2
        go_roundw
        case rel => exact ⟨r / 10, [dig d] ++ acc, by rw [HR2.out], by rw [st_append], by omega, Lib.hid (by rw [← hacc.out, HDS.out, HD.out, List.append_assoc]), HBB.out⟩
        case measure => simp [intOf]; omega
      · obtain rfl : d = 0 := by omega
        have hconv : (convert 22 9 (.slice (some ⟨wr.heap.size, 0, none⟩) 1 1)).run Try.prog (wr.alloc (.cells #[.int .u8 48] 5)) = .ok (.string (st [dig 0])) (wr.alloc (.cells #[.int .u8 48] 5)) := run_dig hd10 wr
        have hbb := (hb.alloc (by exact hb.size) (.cells #[.int .u8 48] 5))
        have HBB := Lib.hid hbb
        clear hb hbb
        go_wp2
        go_roundw
        case rel => exact ⟨r / 10, [dig 0] ++ acc, by rw [HR2.out], by rw [st_append], by omega, Lib.hid (by rw [← hacc.out, HDS.out, HD.out, List.append_assoc]), HBB.out⟩
        case measure => simp [intOf]; omega
    · obtain rfl : r = 0 := by omega
      have HA := Lib.hid (show acc = D from hacc.out)
      have hsz : (⟨#[45]⟩ : ByteArray).size + (st acc).size ≤ 9223372036854775807 := by rw [st_size]; show 1 + acc.length ≤ _; omega
      clear hacc
      go_wp2
      go_ret
      exact ⟨by rw [← HA.out, ← st_45]; rfl, hb⟩

theorem sDigits_any (n : Int) (w : World) (h0 : -9223372036854775808 ≤ n) (h1 : n ≤ 9223372036854775807) :
    Calls Try.prog 70 #[.int .i64 n] w fun e w' => e = .returned (.string (digs n)) ∧ Below w.heap.size w w' := by
  by_cases hz : n = 0
  · subst hz
    go_enter Try.func70, Try.ntmps70
    go_wp2
    go_ret
    exact ⟨rfl, Below.refl _ _⟩
  by_cases hn : 0 ≤ n
  · obtain ⟨m, rfl⟩ := Int.eq_ofNat_of_zero_le hn
    have := sDigits_pos m w (by omega) (by omega)
    unfold digs
    rw [digL_nat]
    exact this
  · obtain ⟨m, hm⟩ : ∃ m : Nat, n = -(m : Int) := ⟨n.natAbs, by omega⟩
    subst hm
    have := sDigits_neg m w (by omega) (by omega)
    unfold digs
    rw [digL_neg (by omega)]
    exact this

end Go.Proofs.Ytmcoidnonmmpjaa
