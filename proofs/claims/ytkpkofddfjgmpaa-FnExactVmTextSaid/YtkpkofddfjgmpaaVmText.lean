/- VmText: a machine as text. -/
import Derived.Test.YtkpkofddfjgmpaaOpText
import Derived.Test.YtkpkofddfjgmpaaRoom
import Derived.Test.YtkpkofddfjgmpaaVm
import Derived.Test.YtkpkofddfjgmpaaOpenV
namespace Go.Proofs.Ytkpkofddfjgmpaa
open Go.RowKit
set_option linter.unusedVariables false
set_option linter.unusedSimpArgs false

def vmNs : List (List UInt8) := [[103, 111], [104, 97, 108, 116], [114, 111, 111, 109], [100, 101, 101, 112], [102, 97, 105, 108], [102, 97, 117, 108, 116]]
def vmN (k : Nat) : List UInt8 := vmNs.getD k []
theorem vmN_len (k : Nat) : (vmN k).length ≤ 5 := by
  unfold vmN
  rcases Nat.lt_or_ge k 6 with h | h
  · have : ∀ x ∈ vmNs, x.length ≤ 5 := by decide
    rw [List.getD_eq_getElem?_getD, List.getElem?_eq_getElem (show k < vmNs.length from h)]
    exact this _ (List.getElem_mem _)
  · rw [List.getD_eq_getElem?_getD, List.getElem?_eq_none (show vmNs.length ≤ k from h)]
    simp
theorem vmN_at : ∀ (k : Nat) (h : k < 6), ([.string ⟨#[103, 111]⟩, .string ⟨#[104, 97, 108, 116]⟩, .string ⟨#[114, 111, 111, 109]⟩, .string ⟨#[100, 101, 101, 112]⟩, .string ⟨#[102, 97, 105, 108]⟩, .string ⟨#[102, 97, 117, 108, 116]⟩] : List Value)[k]? = some (.string (st (vmN k)))
  | 0, _ => rfl
  | 1, _ => rfl
  | 2, _ => rfl
  | 3, _ => rfl
  | 4, _ => rfl
  | 5, _ => rfl
  | n + 6, h => by omega
def vmName (c : Int) : List UInt8 := if 0 ≤ c ∧ c ≤ 5 then vmN c.toNat else [110, 111, 110, 101]
theorem vmName_len (c : Int) : (vmName c).length ≤ 5 := by
  unfold vmName
  split
  · exact vmN_len _
  · decide
def outTxt (os : List Int) (k : Nat) : List UInt8 := (List.range k).flatMap fun i => 32 :: digL (os.getD i 0)
theorem outTxt_step (os : List Int) (k : Nat) : outTxt os (k + 1) = outTxt os k ++ (32 :: digL (os.getD k 0)) := by
  unfold outTxt
  rw [List.range_succ, List.flatMap_append]
  simp
theorem outTxt_len (os : List Int) : ∀ k, (outTxt os k).length ≤ 22 * k
  | 0 => by simp [outTxt]
  | k + 1 => by
    rw [outTxt_step, List.length_append]
    have h1 := outTxt_len os k
    have h2 := digL_len (os.getD k 0)
    simp only [List.length_cons]
    omega
def headTxt (nm : List UInt8) (c s : Nat) (r : Int) : List UInt8 := nm ++ [32] ++ digL (c : Int) ++ [32] ++ digL (s : Int) ++ [32] ++ digL r ++ [32, 111, 117, 116]
theorem headTxt_len (nm : List UInt8) (c s : Nat) (r : Int) (h : nm.length ≤ 5) : (headTxt nm c s r).length ≤ 80 := by
  have h1 := digL_len (c : Int)
  have h2 := digL_len (s : Int)
  have h3 := digL_len r
  unfold headTxt
  simp only [List.length_append, List.length_cons, List.length_nil]
  omega
def vmTxt (L : VmL) : List UInt8 := headTxt (vmName L.code) L.cs.length L.ss.length (roomOf L.zs L.h L.b L.n) ++ outTxt L.os L.os.length

theorem room_in (zs : List Int) (h b n : Int) : -9223372036854775808 ≤ roomOf zs h b n ∧ roomOf zs h b n ≤ 9223372036854775807 := by
  unfold roomOf
  split
  · rename_i hk
    have hF := heapFrame_true (heapOk_frame hk)
    obtain ⟨h', b', n', rfl, rfl, rfl, hF⟩ := hF
    have h1 := hF.h1
    have h2 := hF.n0
    have h3 := hF.n1
    have h4 := hF.base
    omega
  · omega

set_option maxHeartbeats 1600000 in
set_option maxRecDepth 100000 in
theorem iVmText_any {B : Nat} (fv hv sv cv ov : Value) (L : VmL) (w : World) (hr : RdV B w fv hv sv cv ov L) (hi : vmIn L) (hl : vmSz L ≤ 1048576) :
    Calls Try.prog 52 #[vmV fv hv sv cv ov L] w fun e w' => e = .returned (.string (st (vmTxt L))) ∧ Below w.heap.size w w' := by
  obtain ⟨fs, zs, h, b, n, ss, cs, os, code, each⟩ := L
  obtain ⟨_, iz, ih, ib, in_, _, _, hio, hcd⟩ := hi
  dsimp only at iz ih ib in_ hio hcd
  unfold vmSz at hl
  dsimp only at hl
  have HRO := Lib.hid (fun (W : World) (hb : Below w.heap.size w W) => hr.o.below' hb)
  have hrm := fun (W : World) (hb : Below w.heap.size w W) => iRoom_any _ zs h b n W (hr.z.below' hb) iz (by omega) ih ib in_
  obtain ⟨fa, fc, rfl⟩ := hr.f.form
  obtain ⟨ha, hc, rfl⟩ := hr.z.form
  obtain ⟨sa, sc, rfl⟩ := hr.s.form
  obtain ⟨ca, cc, rfl⟩ := hr.c.form
  obtain ⟨oa, oc, rfl⟩ := hr.o.form
  clear hr
  have hrr : -9223372036854775808 ≤ roomOf zs h b n ∧ roomOf zs h b n ≤ 9223372036854775807 := room_in zs h b n
  have hPl := headTxt_len (vmName code) cs.length ss.length (roomOf zs h b n) (vmName_len code)
  have HVT := Lib.hid (show vmTxt ⟨fs, zs, h, b, n, ss, cs, os, code, each⟩ = headTxt (vmName code) cs.length ss.length (roomOf zs h b n) ++ outTxt os os.length from rfl)
  have HS0 := Lib.hid (show st (vmName code) ++ (⟨#[32]⟩ : ByteArray) ++ digs (cs.length : Int) ++ (⟨#[32]⟩ : ByteArray) ++ digs (ss.length : Int) ++ (⟨#[32]⟩ : ByteArray) ++ digs (roomOf zs h b n) ++ (⟨#[32, 111, 117, 116]⟩ : ByteArray) = st (headTxt (vmName code) cs.length ss.length (roomOf zs h b n) ++ outTxt os 0) by
    have h1 : (⟨#[32]⟩ : ByteArray) = st [32] := rfl
    have h2 : (⟨#[32, 111, 117, 116]⟩ : ByteArray) = st [32, 111, 117, 116] := rfl
    rw [h1, h2, show digs (cs.length : Int) = st (digL (cs.length : Int)) from rfl, show digs (ss.length : Int) = st (digL (ss.length : Int)) from rfl, show digs (roomOf zs h b n) = st (digL (roomOf zs h b n)) from rfl]
    simp only [st_append]
    simp [outTxt, headTxt])
  have hd1 := fun (W : World) => iDigits_any (cs.length : Int) W (by omega) (by omega)
  have hd2 := fun (W : World) => iDigits_any (ss.length : Int) W (by omega) (by omega)
  have hd3 := fun (W : World) => iDigits_any (roomOf zs h b n) W hrr.1 hrr.2
  have hs1 := digs_size (cs.length : Int)
  have hs2 := digs_size (ss.length : Int)
  have hs3 := digs_size (roomOf zs h b n)
  have hs0 : (st (vmName code)).size ≤ 5 := by rw [st_size]; exact vmName_len code
  obtain ⟨P, hP⟩ : ∃ P, headTxt (vmName code) cs.length ss.length (roomOf zs h b n) = P := ⟨_, rfl⟩
  rw [hP] at hPl HVT HS0
  obtain ⟨D1, hD1⟩ : ∃ D, digs (cs.length : Int) = D := ⟨_, rfl⟩
  obtain ⟨D2, hD2⟩ : ∃ D, digs (ss.length : Int) = D := ⟨_, rfl⟩
  obtain ⟨D3, hD3⟩ : ∃ D, digs (roomOf zs h b n) = D := ⟨_, rfl⟩
  rw [hD1] at hd1 hs1 HS0
  rw [hD2] at hd2 hs2 HS0
  rw [hD3] at hd3 hs3 HS0
  obtain ⟨R, hR⟩ : ∃ R, roomOf zs h b n = R := ⟨_, rfl⟩
  rw [hR] at hrm hd3
  obtain ⟨T, hT⟩ : ∃ T, st (vmName code) = T := ⟨_, rfl⟩
  rw [hT] at HS0 hs0
  have HT := Lib.hid hT
  have HD1 := Lib.hid hd1
  have HD2 := Lib.hid hd2
  have HD3 := Lib.hid hd3
  have HRM := Lib.hid hrm
  clear hP hD1 hD2 hD3 hR hd1 hd2 hd3 hrm hT hrr iz ih ib in_ hcd
  unfold vmV
  dsimp only
  by_cases hb : inB code 0 5 = true
  · have hcc : 0 ≤ code ∧ code ≤ 5 := by simpa [inB] using hb
    obtain ⟨kc, rfl⟩ : ∃ k : Nat, code = (k : Int) := ⟨code.toNat, by omega⟩
    have hk1 : (kc : Int) < 6 := by omega
    have hk0 : (0 : Int) ≤ (kc : Int) := by omega
    have hnm := vmN_at kc (by omega)
    rw [show vmN kc = vmName (kc : Int) by unfold vmName; rw [if_pos hcc]; rfl, HT.out] at hnm
    have hnm2 : (#[.string ⟨#[103, 111]⟩, .string ⟨#[104, 97, 108, 116]⟩, .string ⟨#[114, 111, 111, 109]⟩, .string ⟨#[100, 101, 101, 112]⟩, .string ⟨#[102, 97, 105, 108]⟩, .string ⟨#[102, 97, 117, 108, 116]⟩] : Array Value)[kc]? = some (.string T) := by simpa using hnm
    clear hcc
    go_enter Try.func52, Try.ntmps52
    go_wp2_with (go_at_call 62; refine (within_any _ _ _ _).mono ?_; rintro e w' ⟨rfl, rfl⟩)
    clear hnm hnm2
    generalize hx : (w.alloc _).alloc _ = x
    obtain ⟨bx, k1, _, _⟩ := alloc_two hx
    clear hx
    have q1 := k1.2.1
    have y1 := k1.1
    have hz1 : T.size + (⟨#[32]⟩ : ByteArray).size ≤ 9223372036854775807 := by show _ + 1 ≤ _; omega
    have hz2 : (T ++ (⟨#[32]⟩ : ByteArray)).size + D1.size ≤ 9223372036854775807 := by rw [ByteArray.size_append]; show _ + 1 + _ ≤ _; omega
    have hz3 : (T ++ (⟨#[32]⟩ : ByteArray) ++ D1).size + (⟨#[32]⟩ : ByteArray).size ≤ 9223372036854775807 := by rw [ByteArray.size_append, ByteArray.size_append]; show _ + 1 + _ + 1 ≤ _; omega
    have hz4 : (T ++ (⟨#[32]⟩ : ByteArray) ++ D1 ++ (⟨#[32]⟩ : ByteArray)).size + D2.size ≤ 9223372036854775807 := by rw [ByteArray.size_append, ByteArray.size_append, ByteArray.size_append]; show _ + 1 + _ + 1 + _ ≤ _; omega
    have hz5 : (T ++ (⟨#[32]⟩ : ByteArray) ++ D1 ++ (⟨#[32]⟩ : ByteArray) ++ D2).size + (⟨#[32]⟩ : ByteArray).size ≤ 9223372036854775807 := by rw [ByteArray.size_append, ByteArray.size_append, ByteArray.size_append, ByteArray.size_append]; show _ + 1 + _ + 1 + _ + 1 ≤ _; omega
    have hz6 : (T ++ (⟨#[32]⟩ : ByteArray) ++ D1 ++ (⟨#[32]⟩ : ByteArray) ++ D2 ++ (⟨#[32]⟩ : ByteArray)).size + D3.size ≤ 9223372036854775807 := by rw [ByteArray.size_append, ByteArray.size_append, ByteArray.size_append, ByteArray.size_append, ByteArray.size_append]; show _ + 1 + _ + 1 + _ + 1 + _ ≤ _; omega
    have hz7 : (T ++ (⟨#[32]⟩ : ByteArray) ++ D1 ++ (⟨#[32]⟩ : ByteArray) ++ D2 ++ (⟨#[32]⟩ : ByteArray) ++ D3).size + (⟨#[32, 111, 117, 116]⟩ : ByteArray).size ≤ 9223372036854775807 := by rw [ByteArray.size_append, ByteArray.size_append, ByteArray.size_append, ByteArray.size_append, ByteArray.size_append, ByteArray.size_append]; show _ + 1 + _ + 1 + _ + 1 + _ + 4 ≤ _; omega
    have ha1 := fun (W : World) => run_string_add_sum (P := Try.prog) W _ _ hz1
    have ha2 := fun (W : World) => run_string_add_sum (P := Try.prog) W _ _ hz2
    have ha3 := fun (W : World) => run_string_add_sum (P := Try.prog) W _ _ hz3
    have ha4 := fun (W : World) => run_string_add_sum (P := Try.prog) W _ _ hz4
    have ha5 := fun (W : World) => run_string_add_sum (P := Try.prog) W _ _ hz5
    have ha6 := fun (W : World) => run_string_add_sum (P := Try.prog) W _ _ hz6
    have ha7 := fun (W : World) => run_string_add_sum (P := Try.prog) W _ _ hz7
    clear hz1 hz2 hz3 hz4 hz5 hz6 hz7
    refine wp_region_held_drew (S := (fun w' => ∀ j : Nat, w'.cell? ⟨w.heap.size, j, none⟩ = (#[.slice fa fs.length fc, .slice ha zs.length hc, .int .i64 h, .int .i64 b, .int .i64 n, .slice sa ss.length sc, .slice ca cs.length cc, .slice oa os.length oc, .int .i64 kc, .bool each] : Array Value)[j]?)) (by kernel_rfl) (by first | (dsimp only; exact q1) | (exact q1)) (fun hHeld => ?_)
    have bd : Below w.heap.size w x.drew := bx.trans (((Below.refl x.heap.size x).drew).mono bx.size)
    have yd : w.heap.size < x.drew.heap.size := by rw [World.size_drew]; exact y1
    generalize x.drew = xd at hHeld bd yd ⊢
    clear q1 y1 k1 bx
    refine' wpAnyH_take (i := 0) (oi := _) (v := _) ?hi0n160 (by kernel_rfl) (by kernel_rfl) (by kernel_rfl) ?hQ0n160 ?hy0n160 (by assumption) ?rest0n160
    case hi0n160 => (simp only [List.getElem?_toArray, List.getElem?_cons_succ, List.getElem?_cons_zero]; rfl)
    case hQ0n160 => exact fun _ _ _ h => h
    case hy0n160 => exact Or.inl ⟨by rfl, by (intro w hSw; (try dsimp only at hSw); go_simp; (try with_reducible rfl))⟩
    try simp only [Act.put, List.setIfInBounds_toArray, List.set_cons_zero, List.set_cons_succ]
    refine' wpAnyH_take (i := 1) (oi := _) (v := _) ?hi1n160 (by kernel_rfl) (by kernel_rfl) (by kernel_rfl) ?hQ1n160 ?hy1n160 (by assumption) ?rest1n160
    case hi1n160 => (simp only [List.getElem?_toArray, List.getElem?_cons_succ, List.getElem?_cons_zero]; rfl)
    case hQ1n160 => exact fun _ _ _ h => h
    case hy1n160 => exact Or.inl ⟨by rfl, by (intro w hSw; (try dsimp only at hSw); go_simp; (try with_reducible rfl))⟩
    try simp only [Act.put, List.setIfInBounds_toArray, List.set_cons_zero, List.set_cons_succ]
    refine' wpAnyH_take (i := 2) (oi := _) (v := _) ?hi2n160 (by kernel_rfl) (by kernel_rfl) (by kernel_rfl) ?hQ2n160 ?hy2n160 (by assumption) ?rest2n160
    case hi2n160 => (simp only [List.getElem?_toArray, List.getElem?_cons_succ, List.getElem?_cons_zero]; rfl)
    case hQ2n160 => exact fun _ _ _ h => h
    case hy2n160 => exact Or.inl ⟨by rfl, by (intro w hSw; (try dsimp only at hSw); go_simp; (try with_reducible rfl))⟩
    try simp only [Act.put, List.setIfInBounds_toArray, List.set_cons_zero, List.set_cons_succ]
    refine' wpAnyH_take (i := 3) (oi := _) (v := _) ?hi3n160 (by kernel_rfl) (by kernel_rfl) (by kernel_rfl) ?hQ3n160 ?hy3n160 (by assumption) ?rest3n160
    case hi3n160 => (simp only [List.getElem?_toArray, List.getElem?_cons_succ, List.getElem?_cons_zero]; rfl)
    case hQ3n160 => exact fun _ _ _ h => h
    case hy3n160 => exact Or.inl ⟨by rfl, by (intro w hSw; (try dsimp only at hSw); go_simp; (try with_reducible rfl))⟩
    try simp only [Act.put, List.setIfInBounds_toArray, List.set_cons_zero, List.set_cons_succ]
    refine' wpAnyH_take (i := 4) (oi := _) (v := _) ?hi4n160 (by kernel_rfl) (by kernel_rfl) (by kernel_rfl) ?hQ4n160 ?hy4n160 (by assumption) ?rest4n160
    case hi4n160 => (simp only [List.getElem?_toArray, List.getElem?_cons_succ, List.getElem?_cons_zero]; rfl)
    case hQ4n160 => exact fun _ _ _ h => h
    case hy4n160 => exact Or.inl ⟨by rfl, by (intro w hSw; (try dsimp only at hSw); go_simp; (try with_reducible rfl))⟩
    try simp only [Act.put, List.setIfInBounds_toArray, List.set_cons_zero, List.set_cons_succ]
    refine' wpAnyH_take (i := 8) (oi := _) (v := _) ?hi8n160 (by kernel_rfl) (by kernel_rfl) (by kernel_rfl) ?hQ8n160 ?hy8n160 (by assumption) ?rest8n160
    case hi8n160 => (simp only [List.getElem?_toArray, List.getElem?_cons_succ, List.getElem?_cons_zero]; rfl)
    case hQ8n160 => exact fun _ _ _ h => h
    case hy8n160 => exact Or.inl ⟨by rfl, by (intro w hSw; (try dsimp only at hSw); go_simp; (try with_reducible rfl))⟩
    try simp only [Act.put, List.setIfInBounds_toArray, List.set_cons_zero, List.set_cons_succ]
    refine' wpAnyH_take (i := 9) (oi := _) (v := _) ?hi9n160 (by kernel_rfl) (by kernel_rfl) (by kernel_rfl) ?hQ9n160 ?hy9n160 (by assumption) ?rest9n160
    case hi9n160 => (simp only [List.getElem?_toArray, List.getElem?_cons_succ, List.getElem?_cons_zero]; rfl)
    case hQ9n160 => exact fun _ _ _ h => h
    case hy9n160 => exact Or.inl ⟨by rfl, by (intro w hSw; (try dsimp only at hSw); go_simp; (try with_reducible rfl))⟩
    try simp only [Act.put, List.setIfInBounds_toArray, List.set_cons_zero, List.set_cons_succ]
    refine' wpAnyH_take (i := 10) (oi := _) (v := _) ?hi10n160 (by kernel_rfl) (by kernel_rfl) (by kernel_rfl) ?hQ10n160 ?hy10n160 (by assumption) ?rest10n160
    case hi10n160 => (simp only [List.getElem?_toArray, List.getElem?_cons_succ, List.getElem?_cons_zero]; rfl)
    case hQ10n160 => exact fun _ _ _ h => h
    case hy10n160 => exact Or.inl ⟨by rfl, by (intro w hSw; (try dsimp only at hSw); go_simp; (try with_reducible rfl))⟩
    try simp only [Act.put, List.setIfInBounds_toArray, List.set_cons_zero, List.set_cons_succ]
    refine' wpAnyH_take (i := 14) (oi := _) (v := _) ?hi14n160 (by kernel_rfl) (by kernel_rfl) (by kernel_rfl) ?hQ14n160 ?hy14n160 (by assumption) ?rest14n160
    case hi14n160 => (simp only [List.getElem?_toArray, List.getElem?_cons_succ, List.getElem?_cons_zero]; rfl)
    case hQ14n160 => exact fun _ _ _ h => h
    case hy14n160 => exact Or.inl ⟨by rfl, by (intro w hSw; (try dsimp only at hSw); go_simp; (try with_reducible rfl))⟩
    try simp only [Act.put, List.setIfInBounds_toArray, List.set_cons_zero, List.set_cons_succ]
    refine' wpAnyH_take (i := 15) (oi := _) (v := _) ?hi15n160 (by kernel_rfl) (by kernel_rfl) (by kernel_rfl) ?hQ15n160 ?hy15n160 (by assumption) ?rest15n160
    case hi15n160 => (simp only [List.getElem?_toArray, List.getElem?_cons_succ, List.getElem?_cons_zero]; rfl)
    case hQ15n160 => exact fun _ _ _ h => h
    case hy15n160 => exact Or.inl ⟨by rfl, by (intro w hSw; (try dsimp only at hSw); go_simp; (try with_reducible rfl))⟩
    try simp only [Act.put, List.setIfInBounds_toArray, List.set_cons_zero, List.set_cons_succ]
    refine wpAnyH_ready (rs := [5]) (by kernel_rfl) (by simp) ?_
    refine AllReadyH.cons (by (simp only [List.getElem?_toArray, List.getElem?_cons_succ, List.getElem?_cons_zero]; rfl)) (fun K hK => ?_) AllReadyH.nil
    go_simp
    refine (HD1.out _).mono ?_
    rintro e w5 ⟨hu, hv⟩
    subst hu
    subst hv
    dsimp only
    refine hK.out _ _ (by first | (dsimp only; exact hHeld) | (exact hHeld)) (fun hHeld => ?_)
    clear hK K
    try simp only [Act.put, List.setIfInBounds_toArray, List.set_cons_zero, List.set_cons_succ]
    refine' wpAnyH_take (i := 6) (oi := _) (v := _) ?hi6n162 (by kernel_rfl) (by kernel_rfl) (by kernel_rfl) ?hQ6n162 ?hy6n162 (by assumption) ?rest6n162
    case hi6n162 => (simp only [List.getElem?_toArray, List.getElem?_cons_succ, List.getElem?_cons_zero]; rfl)
    case hQ6n162 => exact fun _ _ _ h => h
    case hy6n162 => exact Or.inl ⟨by rfl, by (intro w hSw; (try dsimp only at hSw); go_simp; (try with_reducible rfl))⟩
    try simp only [Act.put, List.setIfInBounds_toArray, List.set_cons_zero, List.set_cons_succ]
    refine' wpAnyH_take (i := 7) (oi := _) (v := _) ?hi7n162 (by kernel_rfl) (by kernel_rfl) (by kernel_rfl) ?hQ7n162 ?hy7n162 (by assumption) ?rest7n162
    case hi7n162 => (simp only [List.getElem?_toArray, List.getElem?_cons_succ, List.getElem?_cons_zero]; rfl)
    case hQ7n162 => exact fun _ _ _ h => h
    case hy7n162 => exact Or.inl ⟨by rfl, by (intro w hSw; (try dsimp only at hSw); go_simp; (try with_reducible rfl))⟩
    try simp only [Act.put, List.setIfInBounds_toArray, List.set_cons_zero, List.set_cons_succ]
    refine wpAnyH_ready (rs := [11]) (by kernel_rfl) (by simp) ?_
    refine AllReadyH.cons (by (simp only [List.getElem?_toArray, List.getElem?_cons_succ, List.getElem?_cons_zero]; rfl)) (fun K hK => ?_) AllReadyH.nil
    go_simp
    refine (HD2.out _).mono ?_
    rintro e w6 ⟨hu, hv⟩
    subst hu
    subst hv
    dsimp only
    refine hK.out _ _ (by first | (dsimp only; exact hHeld) | (exact hHeld)) (fun hHeld => ?_)
    clear hK K
    try simp only [Act.put, List.setIfInBounds_toArray, List.set_cons_zero, List.set_cons_succ]
    refine' wpAnyH_take (i := 12) (oi := _) (v := _) ?hi12n164 (by kernel_rfl) (by kernel_rfl) (by kernel_rfl) ?hQ12n164 ?hy12n164 (by assumption) ?rest12n164
    case hi12n164 => (simp only [List.getElem?_toArray, List.getElem?_cons_succ, List.getElem?_cons_zero]; rfl)
    case hQ12n164 => exact fun _ _ _ h => h
    case hy12n164 => exact Or.inl ⟨by rfl, by (intro w hSw; (try dsimp only at hSw); go_simp; (try with_reducible rfl))⟩
    try simp only [Act.put, List.setIfInBounds_toArray, List.set_cons_zero, List.set_cons_succ]
    refine' wpAnyH_take (i := 13) (oi := _) (v := _) ?hi13n164 (by kernel_rfl) (by kernel_rfl) (by kernel_rfl) ?hQ13n164 ?hy13n164 (by assumption) ?rest13n164
    case hi13n164 => (simp only [List.getElem?_toArray, List.getElem?_cons_succ, List.getElem?_cons_zero]; rfl)
    case hQ13n164 => exact fun _ _ _ h => h
    case hy13n164 => exact Or.inl ⟨by rfl, by (intro w hSw; (try dsimp only at hSw); go_simp; (try with_reducible rfl))⟩
    try simp only [Act.put, List.setIfInBounds_toArray, List.set_cons_zero, List.set_cons_succ]
    refine wpAnyH_ready (rs := [16]) (by kernel_rfl) (by simp) ?_
    refine AllReadyH.cons (by (simp only [List.getElem?_toArray, List.getElem?_cons_succ, List.getElem?_cons_zero]; rfl)) (fun K hK => ?_) AllReadyH.nil
    go_simp
    refine (HRM.out _ bd).mono ?_
    rintro e w7 ⟨hu, b9⟩
    subst hu
    dsimp only
    refine hK.out _ _ (by first | (dsimp only; exact fun j => (b9.cell (p := ⟨w.heap.size, j, none⟩) (by dsimp only; omega)).trans (hHeld j)) | (exact fun j => (b9.cell (p := ⟨w.heap.size, j, none⟩) (by dsimp only; omega)).trans (hHeld j))) (fun hHeld => ?_)
    clear hK K
    try simp only [Act.put, List.setIfInBounds_toArray, List.set_cons_zero, List.set_cons_succ]
    replace yd := Nat.lt_of_lt_of_le yd b9.size
    replace bd := bd.trans (b9.mono bd.size)
    clear b9
    refine wpAnyH_ready (rs := [17]) (by kernel_rfl) (by simp) ?_
    refine AllReadyH.cons (by (simp only [List.getElem?_toArray, List.getElem?_cons_succ, List.getElem?_cons_zero]; rfl)) (fun K hK => ?_) AllReadyH.nil
    go_simp
    refine (HD3.out _).mono ?_
    rintro e w8 ⟨hu, hv⟩
    subst hu
    subst hv
    dsimp only
    refine hK.out _ _ (by first | (dsimp only; exact hHeld) | (exact hHeld)) (fun hHeld => ?_)
    clear hK K
    try simp only [Act.put, List.setIfInBounds_toArray, List.set_cons_zero, List.set_cons_succ]
    refine' wpAnyH_take (i := 18) (oi := _) (v := _) ?hi18n170 (by kernel_rfl) (by kernel_rfl) (by kernel_rfl) ?hQ18n170 ?hy18n170 (by assumption) ?rest18n170
    case hi18n170 => (simp only [List.getElem?_toArray, List.getElem?_cons_succ, List.getElem?_cons_zero]; rfl)
    case hQ18n170 => exact fun _ _ _ h => h
    case hy18n170 => exact Or.inl ⟨by rfl, by (intro w hSw; (try dsimp only at hSw); go_simp; (try with_reducible rfl))⟩
    try simp only [Act.put, List.setIfInBounds_toArray, List.set_cons_zero, List.set_cons_succ]
    refine' wpAnyH_take (i := 19) (oi := _) (v := _) ?hi19n170 (by kernel_rfl) (by kernel_rfl) (by kernel_rfl) ?hQ19n170 ?hy19n170 (by assumption) ?rest19n170
    case hi19n170 => (simp only [List.getElem?_toArray, List.getElem?_cons_succ, List.getElem?_cons_zero]; rfl)
    case hQ19n170 => exact fun _ _ _ h => h
    case hy19n170 => exact Or.inl ⟨by rfl, by (intro w hSw; (try dsimp only at hSw); go_simp; (try with_reducible rfl))⟩
    try simp only [Act.put, List.setIfInBounds_toArray, List.set_cons_zero, List.set_cons_succ]
    refine' wpAnyH_take (i := 20) (oi := _) (v := _) ?hi20n170 (by kernel_rfl) (by kernel_rfl) (by kernel_rfl) ?hQ20n170 ?hy20n170 (by assumption) ?rest20n170
    case hi20n170 => (simp only [List.getElem?_toArray, List.getElem?_cons_succ, List.getElem?_cons_zero]; rfl)
    case hQ20n170 => exact fun _ _ _ h => h
    case hy20n170 => exact Or.inl ⟨by rfl, by (intro w hSw; (try dsimp only at hSw); go_simp; (try with_reducible rfl))⟩
    try simp only [Act.put, List.setIfInBounds_toArray, List.set_cons_zero, List.set_cons_succ]
    refine wpAnyH_done (by kernel_rfl) ?_ _
    clear ha1 ha2 ha3 ha4 ha5 ha6 ha7
    have BD := Lib.hid bd
    clear bd
    go_wp2
    go_loopw [4, 38] (fun t i wr => ∃ k : Nat, k ≤ os.length ∧ i = .int .i64 k ∧ t = .string (st (P ++ outTxt os k)) ∧ Below w.heap.size w wr) (fun _ i _ => os.length - (intOf i).toNat)
    case atStart => exact ⟨0, Nat.zero_le _, rfl, by rw [HS0.out], BD.out⟩
    case round =>
      clear HS0 BD hHeld yd
      obtain ⟨k, hk, rfl, rfl, bb⟩ := hrel
      have hsl : (st (P ++ outTxt os k)).size ≤ 80 + 22 * 1048576 := by
        have h1 := outTxt_len os k
        rw [st_size, List.length_append]
        omega
      by_cases hlt : k < os.length
      · rcases HRO.out _ bb with ⟨h', _⟩ | ⟨bl, off, c', hv, _, hbs, _, hc⟩
        · rw [h'] at hlt; cases hlt
        cases hv
        have cq := hc k hlt
        have hb1 := hio k
        have HST := Lib.hid (show st (P ++ outTxt os k) ++ ((⟨#[32]⟩ : ByteArray) ++ digs (os.getD k 0)) = st (P ++ outTxt os (k + 1)) by
          have h1 : (⟨#[32]⟩ : ByteArray) = st [32] := rfl
          rw [outTxt_step, h1, show digs (os.getD k 0) = st (digL (os.getD k 0)) from rfl]
          simp [st_append, List.append_assoc])
        have HDK := Lib.hid (fun (W : World) => iDigits_any (os.getD k 0) W hb1.1 hb1.2)
        have hs1 := digs_size (os.getD k 0)
        obtain ⟨S, hS⟩ : ∃ S, st (P ++ outTxt os k) = S := ⟨_, rfl⟩
        obtain ⟨D, hD⟩ : ∃ D, digs (os.getD k 0) = D := ⟨_, rfl⟩
        obtain ⟨y, hy⟩ : ∃ y, os.getD k 0 = y := ⟨_, rfl⟩
        rw [hS, hD] at HST
        rw [hS] at hsl ⊢
        rw [hD] at hs1 HDK
        rw [hy] at HDK cq
        have hz1 : (⟨#[32]⟩ : ByteArray).size + D.size ≤ 9223372036854775807 := by show 1 + _ ≤ _; omega
        have hz2 : S.size + ((⟨#[32]⟩ : ByteArray) ++ D).size ≤ 9223372036854775807 := by rw [ByteArray.size_append]; show _ + (1 + _) ≤ _; omega
        have ha1 := fun (W : World) => run_string_add_sum (P := Try.prog) W _ _ hz1
        have ha2 := fun (W : World) => run_string_add_sum (P := Try.prog) W _ _ hz2
        have hkl : (k : Int) < (os.length : Int) := by omega
        clear hS hD hy hs1 hz1 hz2 hc hb1 hsl
        go_wp2_with (go_at_call 69; refine (HDK.out _).mono ?_; rintro e w' ⟨rfl, rfl⟩)
        go_roundw
        case rel => exact ⟨k + 1, hlt, by go_num, by rw [HST.out], bb⟩
        case measure => simp [intOf]; omega
      · obtain rfl : k = os.length := by omega
        go_wp2
        go_ret
        exact ⟨by rw [HVT.out]; rfl, bb⟩
  · have hb : inB code 0 5 = false := by simpa using hb
    have hnone : (⟨#[110, 111, 110, 101]⟩ : ByteArray) = T := by
      rw [← HT.out]
      unfold vmName
      rw [if_neg (by simpa [inB] using hb)]
      rfl
    go_enter Try.func52, Try.ntmps52
    go_wp2_with (go_at_call 62; refine (within_any _ _ _ _).mono ?_; rintro e w' ⟨rfl, rfl⟩)
    clear hnone
    generalize hx : w.alloc _ = x
    obtain ⟨bx, k1⟩ := Bx.alloc hx
    clear hx
    have q1 := k1.2.1
    have y1 := k1.1
    have hz1 : T.size + (⟨#[32]⟩ : ByteArray).size ≤ 9223372036854775807 := by show _ + 1 ≤ _; omega
    have hz2 : (T ++ (⟨#[32]⟩ : ByteArray)).size + D1.size ≤ 9223372036854775807 := by rw [ByteArray.size_append]; show _ + 1 + _ ≤ _; omega
    have hz3 : (T ++ (⟨#[32]⟩ : ByteArray) ++ D1).size + (⟨#[32]⟩ : ByteArray).size ≤ 9223372036854775807 := by rw [ByteArray.size_append, ByteArray.size_append]; show _ + 1 + _ + 1 ≤ _; omega
    have hz4 : (T ++ (⟨#[32]⟩ : ByteArray) ++ D1 ++ (⟨#[32]⟩ : ByteArray)).size + D2.size ≤ 9223372036854775807 := by rw [ByteArray.size_append, ByteArray.size_append, ByteArray.size_append]; show _ + 1 + _ + 1 + _ ≤ _; omega
    have hz5 : (T ++ (⟨#[32]⟩ : ByteArray) ++ D1 ++ (⟨#[32]⟩ : ByteArray) ++ D2).size + (⟨#[32]⟩ : ByteArray).size ≤ 9223372036854775807 := by rw [ByteArray.size_append, ByteArray.size_append, ByteArray.size_append, ByteArray.size_append]; show _ + 1 + _ + 1 + _ + 1 ≤ _; omega
    have hz6 : (T ++ (⟨#[32]⟩ : ByteArray) ++ D1 ++ (⟨#[32]⟩ : ByteArray) ++ D2 ++ (⟨#[32]⟩ : ByteArray)).size + D3.size ≤ 9223372036854775807 := by rw [ByteArray.size_append, ByteArray.size_append, ByteArray.size_append, ByteArray.size_append, ByteArray.size_append]; show _ + 1 + _ + 1 + _ + 1 + _ ≤ _; omega
    have hz7 : (T ++ (⟨#[32]⟩ : ByteArray) ++ D1 ++ (⟨#[32]⟩ : ByteArray) ++ D2 ++ (⟨#[32]⟩ : ByteArray) ++ D3).size + (⟨#[32, 111, 117, 116]⟩ : ByteArray).size ≤ 9223372036854775807 := by rw [ByteArray.size_append, ByteArray.size_append, ByteArray.size_append, ByteArray.size_append, ByteArray.size_append, ByteArray.size_append]; show _ + 1 + _ + 1 + _ + 1 + _ + 4 ≤ _; omega
    have ha1 := fun (W : World) => run_string_add_sum (P := Try.prog) W _ _ hz1
    have ha2 := fun (W : World) => run_string_add_sum (P := Try.prog) W _ _ hz2
    have ha3 := fun (W : World) => run_string_add_sum (P := Try.prog) W _ _ hz3
    have ha4 := fun (W : World) => run_string_add_sum (P := Try.prog) W _ _ hz4
    have ha5 := fun (W : World) => run_string_add_sum (P := Try.prog) W _ _ hz5
    have ha6 := fun (W : World) => run_string_add_sum (P := Try.prog) W _ _ hz6
    have ha7 := fun (W : World) => run_string_add_sum (P := Try.prog) W _ _ hz7
    clear hz1 hz2 hz3 hz4 hz5 hz6 hz7
    refine wp_region_held_drew (S := (fun w' => ∀ j : Nat, w'.cell? ⟨w.heap.size, j, none⟩ = (#[.slice fa fs.length fc, .slice ha zs.length hc, .int .i64 h, .int .i64 b, .int .i64 n, .slice sa ss.length sc, .slice ca cs.length cc, .slice oa os.length oc, .int .i64 code, .bool each] : Array Value)[j]?)) (by kernel_rfl) (by first | (dsimp only; exact q1) | (exact q1)) (fun hHeld => ?_)
    have bd : Below w.heap.size w x.drew := bx.trans (((Below.refl x.heap.size x).drew).mono bx.size)
    have yd : w.heap.size < x.drew.heap.size := by rw [World.size_drew]; exact y1
    generalize x.drew = xd at hHeld bd yd ⊢
    clear q1 y1 k1 bx
    refine' wpAnyH_take (i := 0) (oi := _) (v := _) ?hi0n252 (by kernel_rfl) (by kernel_rfl) (by kernel_rfl) ?hQ0n252 ?hy0n252 (by assumption) ?rest0n252
    case hi0n252 => (simp only [List.getElem?_toArray, List.getElem?_cons_succ, List.getElem?_cons_zero]; rfl)
    case hQ0n252 => exact fun _ _ _ h => h
    case hy0n252 => exact Or.inl ⟨by rfl, by (intro w hSw; (try dsimp only at hSw); go_simp; (try with_reducible rfl))⟩
    try simp only [Act.put, List.setIfInBounds_toArray, List.set_cons_zero, List.set_cons_succ]
    refine' wpAnyH_take (i := 1) (oi := _) (v := _) ?hi1n252 (by kernel_rfl) (by kernel_rfl) (by kernel_rfl) ?hQ1n252 ?hy1n252 (by assumption) ?rest1n252
    case hi1n252 => (simp only [List.getElem?_toArray, List.getElem?_cons_succ, List.getElem?_cons_zero]; rfl)
    case hQ1n252 => exact fun _ _ _ h => h
    case hy1n252 => exact Or.inl ⟨by rfl, by (intro w hSw; (try dsimp only at hSw); go_simp; (try with_reducible rfl))⟩
    try simp only [Act.put, List.setIfInBounds_toArray, List.set_cons_zero, List.set_cons_succ]
    refine' wpAnyH_take (i := 2) (oi := _) (v := _) ?hi2n252 (by kernel_rfl) (by kernel_rfl) (by kernel_rfl) ?hQ2n252 ?hy2n252 (by assumption) ?rest2n252
    case hi2n252 => (simp only [List.getElem?_toArray, List.getElem?_cons_succ, List.getElem?_cons_zero]; rfl)
    case hQ2n252 => exact fun _ _ _ h => h
    case hy2n252 => exact Or.inl ⟨by rfl, by (intro w hSw; (try dsimp only at hSw); go_simp; (try with_reducible rfl))⟩
    try simp only [Act.put, List.setIfInBounds_toArray, List.set_cons_zero, List.set_cons_succ]
    refine' wpAnyH_take (i := 3) (oi := _) (v := _) ?hi3n252 (by kernel_rfl) (by kernel_rfl) (by kernel_rfl) ?hQ3n252 ?hy3n252 (by assumption) ?rest3n252
    case hi3n252 => (simp only [List.getElem?_toArray, List.getElem?_cons_succ, List.getElem?_cons_zero]; rfl)
    case hQ3n252 => exact fun _ _ _ h => h
    case hy3n252 => exact Or.inl ⟨by rfl, by (intro w hSw; (try dsimp only at hSw); go_simp; (try with_reducible rfl))⟩
    try simp only [Act.put, List.setIfInBounds_toArray, List.set_cons_zero, List.set_cons_succ]
    refine' wpAnyH_take (i := 4) (oi := _) (v := _) ?hi4n252 (by kernel_rfl) (by kernel_rfl) (by kernel_rfl) ?hQ4n252 ?hy4n252 (by assumption) ?rest4n252
    case hi4n252 => (simp only [List.getElem?_toArray, List.getElem?_cons_succ, List.getElem?_cons_zero]; rfl)
    case hQ4n252 => exact fun _ _ _ h => h
    case hy4n252 => exact Or.inl ⟨by rfl, by (intro w hSw; (try dsimp only at hSw); go_simp; (try with_reducible rfl))⟩
    try simp only [Act.put, List.setIfInBounds_toArray, List.set_cons_zero, List.set_cons_succ]
    refine' wpAnyH_take (i := 8) (oi := _) (v := _) ?hi8n252 (by kernel_rfl) (by kernel_rfl) (by kernel_rfl) ?hQ8n252 ?hy8n252 (by assumption) ?rest8n252
    case hi8n252 => (simp only [List.getElem?_toArray, List.getElem?_cons_succ, List.getElem?_cons_zero]; rfl)
    case hQ8n252 => exact fun _ _ _ h => h
    case hy8n252 => exact Or.inl ⟨by rfl, by (intro w hSw; (try dsimp only at hSw); go_simp; (try with_reducible rfl))⟩
    try simp only [Act.put, List.setIfInBounds_toArray, List.set_cons_zero, List.set_cons_succ]
    refine' wpAnyH_take (i := 9) (oi := _) (v := _) ?hi9n252 (by kernel_rfl) (by kernel_rfl) (by kernel_rfl) ?hQ9n252 ?hy9n252 (by assumption) ?rest9n252
    case hi9n252 => (simp only [List.getElem?_toArray, List.getElem?_cons_succ, List.getElem?_cons_zero]; rfl)
    case hQ9n252 => exact fun _ _ _ h => h
    case hy9n252 => exact Or.inl ⟨by rfl, by (intro w hSw; (try dsimp only at hSw); go_simp; (try with_reducible rfl))⟩
    try simp only [Act.put, List.setIfInBounds_toArray, List.set_cons_zero, List.set_cons_succ]
    refine' wpAnyH_take (i := 10) (oi := _) (v := _) ?hi10n252 (by kernel_rfl) (by kernel_rfl) (by kernel_rfl) ?hQ10n252 ?hy10n252 (by assumption) ?rest10n252
    case hi10n252 => (simp only [List.getElem?_toArray, List.getElem?_cons_succ, List.getElem?_cons_zero]; rfl)
    case hQ10n252 => exact fun _ _ _ h => h
    case hy10n252 => exact Or.inl ⟨by rfl, by (intro w hSw; (try dsimp only at hSw); go_simp; (try with_reducible rfl))⟩
    try simp only [Act.put, List.setIfInBounds_toArray, List.set_cons_zero, List.set_cons_succ]
    refine' wpAnyH_take (i := 14) (oi := _) (v := _) ?hi14n252 (by kernel_rfl) (by kernel_rfl) (by kernel_rfl) ?hQ14n252 ?hy14n252 (by assumption) ?rest14n252
    case hi14n252 => (simp only [List.getElem?_toArray, List.getElem?_cons_succ, List.getElem?_cons_zero]; rfl)
    case hQ14n252 => exact fun _ _ _ h => h
    case hy14n252 => exact Or.inl ⟨by rfl, by (intro w hSw; (try dsimp only at hSw); go_simp; (try with_reducible rfl))⟩
    try simp only [Act.put, List.setIfInBounds_toArray, List.set_cons_zero, List.set_cons_succ]
    refine' wpAnyH_take (i := 15) (oi := _) (v := _) ?hi15n252 (by kernel_rfl) (by kernel_rfl) (by kernel_rfl) ?hQ15n252 ?hy15n252 (by assumption) ?rest15n252
    case hi15n252 => (simp only [List.getElem?_toArray, List.getElem?_cons_succ, List.getElem?_cons_zero]; rfl)
    case hQ15n252 => exact fun _ _ _ h => h
    case hy15n252 => exact Or.inl ⟨by rfl, by (intro w hSw; (try dsimp only at hSw); go_simp; (try with_reducible rfl))⟩
    try simp only [Act.put, List.setIfInBounds_toArray, List.set_cons_zero, List.set_cons_succ]
    refine wpAnyH_ready (rs := [5]) (by kernel_rfl) (by simp) ?_
    refine AllReadyH.cons (by (simp only [List.getElem?_toArray, List.getElem?_cons_succ, List.getElem?_cons_zero]; rfl)) (fun K hK => ?_) AllReadyH.nil
    go_simp
    refine (HD1.out _).mono ?_
    rintro e w5 ⟨hu, hv⟩
    subst hu
    subst hv
    dsimp only
    refine hK.out _ _ (by first | (dsimp only; exact hHeld) | (exact hHeld)) (fun hHeld => ?_)
    clear hK K
    try simp only [Act.put, List.setIfInBounds_toArray, List.set_cons_zero, List.set_cons_succ]
    refine' wpAnyH_take (i := 6) (oi := _) (v := _) ?hi6n254 (by kernel_rfl) (by kernel_rfl) (by kernel_rfl) ?hQ6n254 ?hy6n254 (by assumption) ?rest6n254
    case hi6n254 => (simp only [List.getElem?_toArray, List.getElem?_cons_succ, List.getElem?_cons_zero]; rfl)
    case hQ6n254 => exact fun _ _ _ h => h
    case hy6n254 => exact Or.inl ⟨by rfl, by (intro w hSw; (try dsimp only at hSw); go_simp; (try with_reducible rfl))⟩
    try simp only [Act.put, List.setIfInBounds_toArray, List.set_cons_zero, List.set_cons_succ]
    refine' wpAnyH_take (i := 7) (oi := _) (v := _) ?hi7n254 (by kernel_rfl) (by kernel_rfl) (by kernel_rfl) ?hQ7n254 ?hy7n254 (by assumption) ?rest7n254
    case hi7n254 => (simp only [List.getElem?_toArray, List.getElem?_cons_succ, List.getElem?_cons_zero]; rfl)
    case hQ7n254 => exact fun _ _ _ h => h
    case hy7n254 => exact Or.inl ⟨by rfl, by (intro w hSw; (try dsimp only at hSw); go_simp; (try with_reducible rfl))⟩
    try simp only [Act.put, List.setIfInBounds_toArray, List.set_cons_zero, List.set_cons_succ]
    refine wpAnyH_ready (rs := [11]) (by kernel_rfl) (by simp) ?_
    refine AllReadyH.cons (by (simp only [List.getElem?_toArray, List.getElem?_cons_succ, List.getElem?_cons_zero]; rfl)) (fun K hK => ?_) AllReadyH.nil
    go_simp
    refine (HD2.out _).mono ?_
    rintro e w6 ⟨hu, hv⟩
    subst hu
    subst hv
    dsimp only
    refine hK.out _ _ (by first | (dsimp only; exact hHeld) | (exact hHeld)) (fun hHeld => ?_)
    clear hK K
    try simp only [Act.put, List.setIfInBounds_toArray, List.set_cons_zero, List.set_cons_succ]
    refine' wpAnyH_take (i := 12) (oi := _) (v := _) ?hi12n256 (by kernel_rfl) (by kernel_rfl) (by kernel_rfl) ?hQ12n256 ?hy12n256 (by assumption) ?rest12n256
    case hi12n256 => (simp only [List.getElem?_toArray, List.getElem?_cons_succ, List.getElem?_cons_zero]; rfl)
    case hQ12n256 => exact fun _ _ _ h => h
    case hy12n256 => exact Or.inl ⟨by rfl, by (intro w hSw; (try dsimp only at hSw); go_simp; (try with_reducible rfl))⟩
    try simp only [Act.put, List.setIfInBounds_toArray, List.set_cons_zero, List.set_cons_succ]
    refine' wpAnyH_take (i := 13) (oi := _) (v := _) ?hi13n256 (by kernel_rfl) (by kernel_rfl) (by kernel_rfl) ?hQ13n256 ?hy13n256 (by assumption) ?rest13n256
    case hi13n256 => (simp only [List.getElem?_toArray, List.getElem?_cons_succ, List.getElem?_cons_zero]; rfl)
    case hQ13n256 => exact fun _ _ _ h => h
    case hy13n256 => exact Or.inl ⟨by rfl, by (intro w hSw; (try dsimp only at hSw); go_simp; (try with_reducible rfl))⟩
    try simp only [Act.put, List.setIfInBounds_toArray, List.set_cons_zero, List.set_cons_succ]
    refine wpAnyH_ready (rs := [16]) (by kernel_rfl) (by simp) ?_
    refine AllReadyH.cons (by (simp only [List.getElem?_toArray, List.getElem?_cons_succ, List.getElem?_cons_zero]; rfl)) (fun K hK => ?_) AllReadyH.nil
    go_simp
    refine (HRM.out _ bd).mono ?_
    rintro e w7 ⟨hu, b9⟩
    subst hu
    dsimp only
    refine hK.out _ _ (by first | (dsimp only; exact fun j => (b9.cell (p := ⟨w.heap.size, j, none⟩) (by dsimp only; omega)).trans (hHeld j)) | (exact fun j => (b9.cell (p := ⟨w.heap.size, j, none⟩) (by dsimp only; omega)).trans (hHeld j))) (fun hHeld => ?_)
    clear hK K
    try simp only [Act.put, List.setIfInBounds_toArray, List.set_cons_zero, List.set_cons_succ]
    replace yd := Nat.lt_of_lt_of_le yd b9.size
    replace bd := bd.trans (b9.mono bd.size)
    clear b9
    refine wpAnyH_ready (rs := [17]) (by kernel_rfl) (by simp) ?_
    refine AllReadyH.cons (by (simp only [List.getElem?_toArray, List.getElem?_cons_succ, List.getElem?_cons_zero]; rfl)) (fun K hK => ?_) AllReadyH.nil
    go_simp
    refine (HD3.out _).mono ?_
    rintro e w8 ⟨hu, hv⟩
    subst hu
    subst hv
    dsimp only
    refine hK.out _ _ (by first | (dsimp only; exact hHeld) | (exact hHeld)) (fun hHeld => ?_)
    clear hK K
    try simp only [Act.put, List.setIfInBounds_toArray, List.set_cons_zero, List.set_cons_succ]
    refine' wpAnyH_take (i := 18) (oi := _) (v := _) ?hi18n262 (by kernel_rfl) (by kernel_rfl) (by kernel_rfl) ?hQ18n262 ?hy18n262 (by assumption) ?rest18n262
    case hi18n262 => (simp only [List.getElem?_toArray, List.getElem?_cons_succ, List.getElem?_cons_zero]; rfl)
    case hQ18n262 => exact fun _ _ _ h => h
    case hy18n262 => exact Or.inl ⟨by rfl, by (intro w hSw; (try dsimp only at hSw); go_simp; (try with_reducible rfl))⟩
    try simp only [Act.put, List.setIfInBounds_toArray, List.set_cons_zero, List.set_cons_succ]
    refine' wpAnyH_take (i := 19) (oi := _) (v := _) ?hi19n262 (by kernel_rfl) (by kernel_rfl) (by kernel_rfl) ?hQ19n262 ?hy19n262 (by assumption) ?rest19n262
    case hi19n262 => (simp only [List.getElem?_toArray, List.getElem?_cons_succ, List.getElem?_cons_zero]; rfl)
    case hQ19n262 => exact fun _ _ _ h => h
    case hy19n262 => exact Or.inl ⟨by rfl, by (intro w hSw; (try dsimp only at hSw); go_simp; (try with_reducible rfl))⟩
    try simp only [Act.put, List.setIfInBounds_toArray, List.set_cons_zero, List.set_cons_succ]
    refine' wpAnyH_take (i := 20) (oi := _) (v := _) ?hi20n262 (by kernel_rfl) (by kernel_rfl) (by kernel_rfl) ?hQ20n262 ?hy20n262 (by assumption) ?rest20n262
    case hi20n262 => (simp only [List.getElem?_toArray, List.getElem?_cons_succ, List.getElem?_cons_zero]; rfl)
    case hQ20n262 => exact fun _ _ _ h => h
    case hy20n262 => exact Or.inl ⟨by rfl, by (intro w hSw; (try dsimp only at hSw); go_simp; (try with_reducible rfl))⟩
    try simp only [Act.put, List.setIfInBounds_toArray, List.set_cons_zero, List.set_cons_succ]
    refine wpAnyH_done (by kernel_rfl) ?_ _
    clear ha1 ha2 ha3 ha4 ha5 ha6 ha7
    have BD := Lib.hid bd
    clear bd
    go_wp2
    go_loopw [4, 38] (fun t i wr => ∃ k : Nat, k ≤ os.length ∧ i = .int .i64 k ∧ t = .string (st (P ++ outTxt os k)) ∧ Below w.heap.size w wr) (fun _ i _ => os.length - (intOf i).toNat)
    case atStart => exact ⟨0, Nat.zero_le _, rfl, by rw [HS0.out], BD.out⟩
    case round =>
      clear HS0 BD hHeld yd
      obtain ⟨k, hk, rfl, rfl, bb⟩ := hrel
      have hsl : (st (P ++ outTxt os k)).size ≤ 80 + 22 * 1048576 := by
        have h1 := outTxt_len os k
        rw [st_size, List.length_append]
        omega
      by_cases hlt : k < os.length
      · rcases HRO.out _ bb with ⟨h', _⟩ | ⟨bl, off, c', hv, _, hbs, _, hc⟩
        · rw [h'] at hlt; cases hlt
        cases hv
        have cq := hc k hlt
        have hb1 := hio k
        have HST := Lib.hid (show st (P ++ outTxt os k) ++ ((⟨#[32]⟩ : ByteArray) ++ digs (os.getD k 0)) = st (P ++ outTxt os (k + 1)) by
          have h1 : (⟨#[32]⟩ : ByteArray) = st [32] := rfl
          rw [outTxt_step, h1, show digs (os.getD k 0) = st (digL (os.getD k 0)) from rfl]
          simp [st_append, List.append_assoc])
        have HDK := Lib.hid (fun (W : World) => iDigits_any (os.getD k 0) W hb1.1 hb1.2)
        have hs1 := digs_size (os.getD k 0)
        obtain ⟨S, hS⟩ : ∃ S, st (P ++ outTxt os k) = S := ⟨_, rfl⟩
        obtain ⟨D, hD⟩ : ∃ D, digs (os.getD k 0) = D := ⟨_, rfl⟩
        obtain ⟨y, hy⟩ : ∃ y, os.getD k 0 = y := ⟨_, rfl⟩
        rw [hS, hD] at HST
        rw [hS] at hsl ⊢
        rw [hD] at hs1 HDK
        rw [hy] at HDK cq
        have hz1 : (⟨#[32]⟩ : ByteArray).size + D.size ≤ 9223372036854775807 := by show 1 + _ ≤ _; omega
        have hz2 : S.size + ((⟨#[32]⟩ : ByteArray) ++ D).size ≤ 9223372036854775807 := by rw [ByteArray.size_append]; show _ + (1 + _) ≤ _; omega
        have ha1 := fun (W : World) => run_string_add_sum (P := Try.prog) W _ _ hz1
        have ha2 := fun (W : World) => run_string_add_sum (P := Try.prog) W _ _ hz2
        have hkl : (k : Int) < (os.length : Int) := by omega
        clear hS hD hy hs1 hz1 hz2 hc hb1 hsl
        go_wp2_with (go_at_call 69; refine (HDK.out _).mono ?_; rintro e w' ⟨rfl, rfl⟩)
        go_roundw
        case rel => exact ⟨k + 1, hlt, by go_num, by rw [HST.out], bb⟩
        case measure => simp [intOf]; omega
      · obtain rfl : k = os.length := by omega
        go_wp2
        go_ret
        exact ⟨by rw [HVT.out]; rfl, bb⟩

set_option maxHeartbeats 1600000 in
set_option maxRecDepth 100000 in
theorem sVmText_any {B : Nat} (fv hv sv cv ov : Value) (L : VmL) (w : World) (hr : RdV B w fv hv sv cv ov L) (hi : vmIn L) (hl : vmSz L ≤ 1048576) :
    Calls Try.prog 51 #[vmV fv hv sv cv ov L] w fun e w' => e = .returned (.string (st (vmTxt L))) ∧ Below w.heap.size w w' := by
  obtain ⟨fs, zs, h, b, n, ss, cs, os, code, each⟩ := L
  obtain ⟨_, iz, ih, ib, in_, _, _, hio, hcd⟩ := hi
  dsimp only at iz ih ib in_ hio hcd
  unfold vmSz at hl
  dsimp only at hl
  have HRO := Lib.hid (fun (W : World) (hb : Below w.heap.size w W) => hr.o.below' hb)
  have hrm := fun (W : World) (hb : Below w.heap.size w W) => sRoom_any _ zs h b n W (hr.z.below' hb) iz (by omega) ih ib in_
  obtain ⟨fa, fc, rfl⟩ := hr.f.form
  obtain ⟨ha, hc, rfl⟩ := hr.z.form
  obtain ⟨sa, sc, rfl⟩ := hr.s.form
  obtain ⟨ca, cc, rfl⟩ := hr.c.form
  obtain ⟨oa, oc, rfl⟩ := hr.o.form
  clear hr
  have hrr : -9223372036854775808 ≤ roomOf zs h b n ∧ roomOf zs h b n ≤ 9223372036854775807 := room_in zs h b n
  have hPl := headTxt_len (vmName code) cs.length ss.length (roomOf zs h b n) (vmName_len code)
  have HVT := Lib.hid (show vmTxt ⟨fs, zs, h, b, n, ss, cs, os, code, each⟩ = headTxt (vmName code) cs.length ss.length (roomOf zs h b n) ++ outTxt os os.length from rfl)
  have HS0 := Lib.hid (show st (vmName code) ++ (⟨#[32]⟩ : ByteArray) ++ digs (cs.length : Int) ++ (⟨#[32]⟩ : ByteArray) ++ digs (ss.length : Int) ++ (⟨#[32]⟩ : ByteArray) ++ digs (roomOf zs h b n) ++ (⟨#[32, 111, 117, 116]⟩ : ByteArray) = st (headTxt (vmName code) cs.length ss.length (roomOf zs h b n) ++ outTxt os 0) by
    have h1 : (⟨#[32]⟩ : ByteArray) = st [32] := rfl
    have h2 : (⟨#[32, 111, 117, 116]⟩ : ByteArray) = st [32, 111, 117, 116] := rfl
    rw [h1, h2, show digs (cs.length : Int) = st (digL (cs.length : Int)) from rfl, show digs (ss.length : Int) = st (digL (ss.length : Int)) from rfl, show digs (roomOf zs h b n) = st (digL (roomOf zs h b n)) from rfl]
    simp only [st_append]
    simp [outTxt, headTxt])
  have hd1 := fun (W : World) => sDigits_any (cs.length : Int) W (by omega) (by omega)
  have hd2 := fun (W : World) => sDigits_any (ss.length : Int) W (by omega) (by omega)
  have hd3 := fun (W : World) => sDigits_any (roomOf zs h b n) W hrr.1 hrr.2
  have hs1 := digs_size (cs.length : Int)
  have hs2 := digs_size (ss.length : Int)
  have hs3 := digs_size (roomOf zs h b n)
  have hs0 : (st (vmName code)).size ≤ 5 := by rw [st_size]; exact vmName_len code
  obtain ⟨P, hP⟩ : ∃ P, headTxt (vmName code) cs.length ss.length (roomOf zs h b n) = P := ⟨_, rfl⟩
  rw [hP] at hPl HVT HS0
  obtain ⟨D1, hD1⟩ : ∃ D, digs (cs.length : Int) = D := ⟨_, rfl⟩
  obtain ⟨D2, hD2⟩ : ∃ D, digs (ss.length : Int) = D := ⟨_, rfl⟩
  obtain ⟨D3, hD3⟩ : ∃ D, digs (roomOf zs h b n) = D := ⟨_, rfl⟩
  rw [hD1] at hd1 hs1 HS0
  rw [hD2] at hd2 hs2 HS0
  rw [hD3] at hd3 hs3 HS0
  obtain ⟨R, hR⟩ : ∃ R, roomOf zs h b n = R := ⟨_, rfl⟩
  rw [hR] at hrm hd3
  obtain ⟨T, hT⟩ : ∃ T, st (vmName code) = T := ⟨_, rfl⟩
  rw [hT] at HS0 hs0
  have HT := Lib.hid hT
  have HD1 := Lib.hid hd1
  have HD2 := Lib.hid hd2
  have HD3 := Lib.hid hd3
  have HRM := Lib.hid hrm
  clear hP hD1 hD2 hD3 hR hd1 hd2 hd3 hrm hT hrr iz ih ib in_ hcd
  unfold vmV
  dsimp only
  by_cases hb : inB code 0 5 = true
  · have hcc : 0 ≤ code ∧ code ≤ 5 := by simpa [inB] using hb
    obtain ⟨kc, rfl⟩ : ∃ k : Nat, code = (k : Int) := ⟨code.toNat, by omega⟩
    have hk1 : (kc : Int) < 6 := by omega
    have hk0 : (0 : Int) ≤ (kc : Int) := by omega
    have hnm := vmN_at kc (by omega)
    rw [show vmN kc = vmName (kc : Int) by unfold vmName; rw [if_pos hcc]; rfl, HT.out] at hnm
    have hnm2 : (#[.string ⟨#[103, 111]⟩, .string ⟨#[104, 97, 108, 116]⟩, .string ⟨#[114, 111, 111, 109]⟩, .string ⟨#[100, 101, 101, 112]⟩, .string ⟨#[102, 97, 105, 108]⟩, .string ⟨#[102, 97, 117, 108, 116]⟩] : Array Value)[kc]? = some (.string T) := by simpa using hnm
    clear hcc
    go_enter Try.func51, Try.ntmps51
    go_wp2_with (go_at_call 64; refine (l1In_any _ _ _ _).mono ?_; rintro e w' ⟨rfl, rfl⟩)
    clear hnm hnm2
    generalize hx : (w.alloc _).alloc _ = x
    obtain ⟨bx, k1, _, _⟩ := alloc_two hx
    clear hx
    have q1 := k1.2.1
    have y1 := k1.1
    have hz1 : T.size + (⟨#[32]⟩ : ByteArray).size ≤ 9223372036854775807 := by show _ + 1 ≤ _; omega
    have hz2 : (T ++ (⟨#[32]⟩ : ByteArray)).size + D1.size ≤ 9223372036854775807 := by rw [ByteArray.size_append]; show _ + 1 + _ ≤ _; omega
    have hz3 : (T ++ (⟨#[32]⟩ : ByteArray) ++ D1).size + (⟨#[32]⟩ : ByteArray).size ≤ 9223372036854775807 := by rw [ByteArray.size_append, ByteArray.size_append]; show _ + 1 + _ + 1 ≤ _; omega
    have hz4 : (T ++ (⟨#[32]⟩ : ByteArray) ++ D1 ++ (⟨#[32]⟩ : ByteArray)).size + D2.size ≤ 9223372036854775807 := by rw [ByteArray.size_append, ByteArray.size_append, ByteArray.size_append]; show _ + 1 + _ + 1 + _ ≤ _; omega
    have hz5 : (T ++ (⟨#[32]⟩ : ByteArray) ++ D1 ++ (⟨#[32]⟩ : ByteArray) ++ D2).size + (⟨#[32]⟩ : ByteArray).size ≤ 9223372036854775807 := by rw [ByteArray.size_append, ByteArray.size_append, ByteArray.size_append, ByteArray.size_append]; show _ + 1 + _ + 1 + _ + 1 ≤ _; omega
    have hz6 : (T ++ (⟨#[32]⟩ : ByteArray) ++ D1 ++ (⟨#[32]⟩ : ByteArray) ++ D2 ++ (⟨#[32]⟩ : ByteArray)).size + D3.size ≤ 9223372036854775807 := by rw [ByteArray.size_append, ByteArray.size_append, ByteArray.size_append, ByteArray.size_append, ByteArray.size_append]; show _ + 1 + _ + 1 + _ + 1 + _ ≤ _; omega
    have hz7 : (T ++ (⟨#[32]⟩ : ByteArray) ++ D1 ++ (⟨#[32]⟩ : ByteArray) ++ D2 ++ (⟨#[32]⟩ : ByteArray) ++ D3).size + (⟨#[32, 111, 117, 116]⟩ : ByteArray).size ≤ 9223372036854775807 := by rw [ByteArray.size_append, ByteArray.size_append, ByteArray.size_append, ByteArray.size_append, ByteArray.size_append, ByteArray.size_append]; show _ + 1 + _ + 1 + _ + 1 + _ + 4 ≤ _; omega
    have ha1 := fun (W : World) => run_string_add_sum (P := Try.prog) W _ _ hz1
    have ha2 := fun (W : World) => run_string_add_sum (P := Try.prog) W _ _ hz2
    have ha3 := fun (W : World) => run_string_add_sum (P := Try.prog) W _ _ hz3
    have ha4 := fun (W : World) => run_string_add_sum (P := Try.prog) W _ _ hz4
    have ha5 := fun (W : World) => run_string_add_sum (P := Try.prog) W _ _ hz5
    have ha6 := fun (W : World) => run_string_add_sum (P := Try.prog) W _ _ hz6
    have ha7 := fun (W : World) => run_string_add_sum (P := Try.prog) W _ _ hz7
    clear hz1 hz2 hz3 hz4 hz5 hz6 hz7
    refine wp_region_held_drew (S := (fun w' => ∀ j : Nat, w'.cell? ⟨w.heap.size, j, none⟩ = (#[.slice fa fs.length fc, .slice ha zs.length hc, .int .i64 h, .int .i64 b, .int .i64 n, .slice sa ss.length sc, .slice ca cs.length cc, .slice oa os.length oc, .int .i64 kc, .bool each] : Array Value)[j]?)) (by kernel_rfl) (by first | (dsimp only; exact q1) | (exact q1)) (fun hHeld => ?_)
    have bd : Below w.heap.size w x.drew := bx.trans (((Below.refl x.heap.size x).drew).mono bx.size)
    have yd : w.heap.size < x.drew.heap.size := by rw [World.size_drew]; exact y1
    generalize x.drew = xd at hHeld bd yd ⊢
    clear q1 y1 k1 bx
    refine' wpAnyH_take (i := 0) (oi := _) (v := _) ?hi0n401 (by kernel_rfl) (by kernel_rfl) (by kernel_rfl) ?hQ0n401 ?hy0n401 (by assumption) ?rest0n401
    case hi0n401 => (simp only [List.getElem?_toArray, List.getElem?_cons_succ, List.getElem?_cons_zero]; rfl)
    case hQ0n401 => exact fun _ _ _ h => h
    case hy0n401 => exact Or.inl ⟨by rfl, by (intro w hSw; (try dsimp only at hSw); go_simp; (try with_reducible rfl))⟩
    try simp only [Act.put, List.setIfInBounds_toArray, List.set_cons_zero, List.set_cons_succ]
    refine' wpAnyH_take (i := 1) (oi := _) (v := _) ?hi1n401 (by kernel_rfl) (by kernel_rfl) (by kernel_rfl) ?hQ1n401 ?hy1n401 (by assumption) ?rest1n401
    case hi1n401 => (simp only [List.getElem?_toArray, List.getElem?_cons_succ, List.getElem?_cons_zero]; rfl)
    case hQ1n401 => exact fun _ _ _ h => h
    case hy1n401 => exact Or.inl ⟨by rfl, by (intro w hSw; (try dsimp only at hSw); go_simp; (try with_reducible rfl))⟩
    try simp only [Act.put, List.setIfInBounds_toArray, List.set_cons_zero, List.set_cons_succ]
    refine' wpAnyH_take (i := 2) (oi := _) (v := _) ?hi2n401 (by kernel_rfl) (by kernel_rfl) (by kernel_rfl) ?hQ2n401 ?hy2n401 (by assumption) ?rest2n401
    case hi2n401 => (simp only [List.getElem?_toArray, List.getElem?_cons_succ, List.getElem?_cons_zero]; rfl)
    case hQ2n401 => exact fun _ _ _ h => h
    case hy2n401 => exact Or.inl ⟨by rfl, by (intro w hSw; (try dsimp only at hSw); go_simp; (try with_reducible rfl))⟩
    try simp only [Act.put, List.setIfInBounds_toArray, List.set_cons_zero, List.set_cons_succ]
    refine' wpAnyH_take (i := 3) (oi := _) (v := _) ?hi3n401 (by kernel_rfl) (by kernel_rfl) (by kernel_rfl) ?hQ3n401 ?hy3n401 (by assumption) ?rest3n401
    case hi3n401 => (simp only [List.getElem?_toArray, List.getElem?_cons_succ, List.getElem?_cons_zero]; rfl)
    case hQ3n401 => exact fun _ _ _ h => h
    case hy3n401 => exact Or.inl ⟨by rfl, by (intro w hSw; (try dsimp only at hSw); go_simp; (try with_reducible rfl))⟩
    try simp only [Act.put, List.setIfInBounds_toArray, List.set_cons_zero, List.set_cons_succ]
    refine' wpAnyH_take (i := 4) (oi := _) (v := _) ?hi4n401 (by kernel_rfl) (by kernel_rfl) (by kernel_rfl) ?hQ4n401 ?hy4n401 (by assumption) ?rest4n401
    case hi4n401 => (simp only [List.getElem?_toArray, List.getElem?_cons_succ, List.getElem?_cons_zero]; rfl)
    case hQ4n401 => exact fun _ _ _ h => h
    case hy4n401 => exact Or.inl ⟨by rfl, by (intro w hSw; (try dsimp only at hSw); go_simp; (try with_reducible rfl))⟩
    try simp only [Act.put, List.setIfInBounds_toArray, List.set_cons_zero, List.set_cons_succ]
    refine' wpAnyH_take (i := 8) (oi := _) (v := _) ?hi8n401 (by kernel_rfl) (by kernel_rfl) (by kernel_rfl) ?hQ8n401 ?hy8n401 (by assumption) ?rest8n401
    case hi8n401 => (simp only [List.getElem?_toArray, List.getElem?_cons_succ, List.getElem?_cons_zero]; rfl)
    case hQ8n401 => exact fun _ _ _ h => h
    case hy8n401 => exact Or.inl ⟨by rfl, by (intro w hSw; (try dsimp only at hSw); go_simp; (try with_reducible rfl))⟩
    try simp only [Act.put, List.setIfInBounds_toArray, List.set_cons_zero, List.set_cons_succ]
    refine' wpAnyH_take (i := 9) (oi := _) (v := _) ?hi9n401 (by kernel_rfl) (by kernel_rfl) (by kernel_rfl) ?hQ9n401 ?hy9n401 (by assumption) ?rest9n401
    case hi9n401 => (simp only [List.getElem?_toArray, List.getElem?_cons_succ, List.getElem?_cons_zero]; rfl)
    case hQ9n401 => exact fun _ _ _ h => h
    case hy9n401 => exact Or.inl ⟨by rfl, by (intro w hSw; (try dsimp only at hSw); go_simp; (try with_reducible rfl))⟩
    try simp only [Act.put, List.setIfInBounds_toArray, List.set_cons_zero, List.set_cons_succ]
    refine' wpAnyH_take (i := 10) (oi := _) (v := _) ?hi10n401 (by kernel_rfl) (by kernel_rfl) (by kernel_rfl) ?hQ10n401 ?hy10n401 (by assumption) ?rest10n401
    case hi10n401 => (simp only [List.getElem?_toArray, List.getElem?_cons_succ, List.getElem?_cons_zero]; rfl)
    case hQ10n401 => exact fun _ _ _ h => h
    case hy10n401 => exact Or.inl ⟨by rfl, by (intro w hSw; (try dsimp only at hSw); go_simp; (try with_reducible rfl))⟩
    try simp only [Act.put, List.setIfInBounds_toArray, List.set_cons_zero, List.set_cons_succ]
    refine' wpAnyH_take (i := 14) (oi := _) (v := _) ?hi14n401 (by kernel_rfl) (by kernel_rfl) (by kernel_rfl) ?hQ14n401 ?hy14n401 (by assumption) ?rest14n401
    case hi14n401 => (simp only [List.getElem?_toArray, List.getElem?_cons_succ, List.getElem?_cons_zero]; rfl)
    case hQ14n401 => exact fun _ _ _ h => h
    case hy14n401 => exact Or.inl ⟨by rfl, by (intro w hSw; (try dsimp only at hSw); go_simp; (try with_reducible rfl))⟩
    try simp only [Act.put, List.setIfInBounds_toArray, List.set_cons_zero, List.set_cons_succ]
    refine' wpAnyH_take (i := 15) (oi := _) (v := _) ?hi15n401 (by kernel_rfl) (by kernel_rfl) (by kernel_rfl) ?hQ15n401 ?hy15n401 (by assumption) ?rest15n401
    case hi15n401 => (simp only [List.getElem?_toArray, List.getElem?_cons_succ, List.getElem?_cons_zero]; rfl)
    case hQ15n401 => exact fun _ _ _ h => h
    case hy15n401 => exact Or.inl ⟨by rfl, by (intro w hSw; (try dsimp only at hSw); go_simp; (try with_reducible rfl))⟩
    try simp only [Act.put, List.setIfInBounds_toArray, List.set_cons_zero, List.set_cons_succ]
    refine wpAnyH_ready (rs := [5]) (by kernel_rfl) (by simp) ?_
    refine AllReadyH.cons (by (simp only [List.getElem?_toArray, List.getElem?_cons_succ, List.getElem?_cons_zero]; rfl)) (fun K hK => ?_) AllReadyH.nil
    go_simp
    refine (HD1.out _).mono ?_
    rintro e w5 ⟨hu, b9⟩
    subst hu
    dsimp only
    refine hK.out _ _ (by first | (dsimp only; exact fun j => (b9.cell (p := ⟨w.heap.size, j, none⟩) (by dsimp only; omega)).trans (hHeld j)) | (exact fun j => (b9.cell (p := ⟨w.heap.size, j, none⟩) (by dsimp only; omega)).trans (hHeld j))) (fun hHeld => ?_)
    clear hK K
    try simp only [Act.put, List.setIfInBounds_toArray, List.set_cons_zero, List.set_cons_succ]
    replace yd := Nat.lt_of_lt_of_le yd b9.size
    replace bd := bd.trans (b9.mono bd.size)
    clear b9
    refine' wpAnyH_take (i := 6) (oi := _) (v := _) ?hi6n406 (by kernel_rfl) (by kernel_rfl) (by kernel_rfl) ?hQ6n406 ?hy6n406 (by assumption) ?rest6n406
    case hi6n406 => (simp only [List.getElem?_toArray, List.getElem?_cons_succ, List.getElem?_cons_zero]; rfl)
    case hQ6n406 => exact fun _ _ _ h => h
    case hy6n406 => exact Or.inl ⟨by rfl, by (intro w hSw; (try dsimp only at hSw); go_simp; (try with_reducible rfl))⟩
    try simp only [Act.put, List.setIfInBounds_toArray, List.set_cons_zero, List.set_cons_succ]
    refine' wpAnyH_take (i := 7) (oi := _) (v := _) ?hi7n406 (by kernel_rfl) (by kernel_rfl) (by kernel_rfl) ?hQ7n406 ?hy7n406 (by assumption) ?rest7n406
    case hi7n406 => (simp only [List.getElem?_toArray, List.getElem?_cons_succ, List.getElem?_cons_zero]; rfl)
    case hQ7n406 => exact fun _ _ _ h => h
    case hy7n406 => exact Or.inl ⟨by rfl, by (intro w hSw; (try dsimp only at hSw); go_simp; (try with_reducible rfl))⟩
    try simp only [Act.put, List.setIfInBounds_toArray, List.set_cons_zero, List.set_cons_succ]
    refine wpAnyH_ready (rs := [11]) (by kernel_rfl) (by simp) ?_
    refine AllReadyH.cons (by (simp only [List.getElem?_toArray, List.getElem?_cons_succ, List.getElem?_cons_zero]; rfl)) (fun K hK => ?_) AllReadyH.nil
    go_simp
    refine (HD2.out _).mono ?_
    rintro e w6 ⟨hu, b9⟩
    subst hu
    dsimp only
    refine hK.out _ _ (by first | (dsimp only; exact fun j => (b9.cell (p := ⟨w.heap.size, j, none⟩) (by dsimp only; omega)).trans (hHeld j)) | (exact fun j => (b9.cell (p := ⟨w.heap.size, j, none⟩) (by dsimp only; omega)).trans (hHeld j))) (fun hHeld => ?_)
    clear hK K
    try simp only [Act.put, List.setIfInBounds_toArray, List.set_cons_zero, List.set_cons_succ]
    replace yd := Nat.lt_of_lt_of_le yd b9.size
    replace bd := bd.trans (b9.mono bd.size)
    clear b9
    refine' wpAnyH_take (i := 12) (oi := _) (v := _) ?hi12n411 (by kernel_rfl) (by kernel_rfl) (by kernel_rfl) ?hQ12n411 ?hy12n411 (by assumption) ?rest12n411
    case hi12n411 => (simp only [List.getElem?_toArray, List.getElem?_cons_succ, List.getElem?_cons_zero]; rfl)
    case hQ12n411 => exact fun _ _ _ h => h
    case hy12n411 => exact Or.inl ⟨by rfl, by (intro w hSw; (try dsimp only at hSw); go_simp; (try with_reducible rfl))⟩
    try simp only [Act.put, List.setIfInBounds_toArray, List.set_cons_zero, List.set_cons_succ]
    refine' wpAnyH_take (i := 13) (oi := _) (v := _) ?hi13n411 (by kernel_rfl) (by kernel_rfl) (by kernel_rfl) ?hQ13n411 ?hy13n411 (by assumption) ?rest13n411
    case hi13n411 => (simp only [List.getElem?_toArray, List.getElem?_cons_succ, List.getElem?_cons_zero]; rfl)
    case hQ13n411 => exact fun _ _ _ h => h
    case hy13n411 => exact Or.inl ⟨by rfl, by (intro w hSw; (try dsimp only at hSw); go_simp; (try with_reducible rfl))⟩
    try simp only [Act.put, List.setIfInBounds_toArray, List.set_cons_zero, List.set_cons_succ]
    refine wpAnyH_ready (rs := [16]) (by kernel_rfl) (by simp) ?_
    refine AllReadyH.cons (by (simp only [List.getElem?_toArray, List.getElem?_cons_succ, List.getElem?_cons_zero]; rfl)) (fun K hK => ?_) AllReadyH.nil
    go_simp
    refine (HRM.out _ bd).mono ?_
    rintro e w7 ⟨hu, b9⟩
    subst hu
    dsimp only
    refine hK.out _ _ (by first | (dsimp only; exact fun j => (b9.cell (p := ⟨w.heap.size, j, none⟩) (by dsimp only; omega)).trans (hHeld j)) | (exact fun j => (b9.cell (p := ⟨w.heap.size, j, none⟩) (by dsimp only; omega)).trans (hHeld j))) (fun hHeld => ?_)
    clear hK K
    try simp only [Act.put, List.setIfInBounds_toArray, List.set_cons_zero, List.set_cons_succ]
    replace yd := Nat.lt_of_lt_of_le yd b9.size
    replace bd := bd.trans (b9.mono bd.size)
    clear b9
    refine wpAnyH_ready (rs := [17]) (by kernel_rfl) (by simp) ?_
    refine AllReadyH.cons (by (simp only [List.getElem?_toArray, List.getElem?_cons_succ, List.getElem?_cons_zero]; rfl)) (fun K hK => ?_) AllReadyH.nil
    go_simp
    refine (HD3.out _).mono ?_
    rintro e w8 ⟨hu, b9⟩
    subst hu
    dsimp only
    refine hK.out _ _ (by first | (dsimp only; exact fun j => (b9.cell (p := ⟨w.heap.size, j, none⟩) (by dsimp only; omega)).trans (hHeld j)) | (exact fun j => (b9.cell (p := ⟨w.heap.size, j, none⟩) (by dsimp only; omega)).trans (hHeld j))) (fun hHeld => ?_)
    clear hK K
    try simp only [Act.put, List.setIfInBounds_toArray, List.set_cons_zero, List.set_cons_succ]
    replace yd := Nat.lt_of_lt_of_le yd b9.size
    replace bd := bd.trans (b9.mono bd.size)
    clear b9
    refine' wpAnyH_take (i := 18) (oi := _) (v := _) ?hi18n420 (by kernel_rfl) (by kernel_rfl) (by kernel_rfl) ?hQ18n420 ?hy18n420 (by assumption) ?rest18n420
    case hi18n420 => (simp only [List.getElem?_toArray, List.getElem?_cons_succ, List.getElem?_cons_zero]; rfl)
    case hQ18n420 => exact fun _ _ _ h => h
    case hy18n420 => exact Or.inl ⟨by rfl, by (intro w hSw; (try dsimp only at hSw); go_simp; (try with_reducible rfl))⟩
    try simp only [Act.put, List.setIfInBounds_toArray, List.set_cons_zero, List.set_cons_succ]
    refine' wpAnyH_take (i := 19) (oi := _) (v := _) ?hi19n420 (by kernel_rfl) (by kernel_rfl) (by kernel_rfl) ?hQ19n420 ?hy19n420 (by assumption) ?rest19n420
    case hi19n420 => (simp only [List.getElem?_toArray, List.getElem?_cons_succ, List.getElem?_cons_zero]; rfl)
    case hQ19n420 => exact fun _ _ _ h => h
    case hy19n420 => exact Or.inl ⟨by rfl, by (intro w hSw; (try dsimp only at hSw); go_simp; (try with_reducible rfl))⟩
    try simp only [Act.put, List.setIfInBounds_toArray, List.set_cons_zero, List.set_cons_succ]
    refine' wpAnyH_take (i := 20) (oi := _) (v := _) ?hi20n420 (by kernel_rfl) (by kernel_rfl) (by kernel_rfl) ?hQ20n420 ?hy20n420 (by assumption) ?rest20n420
    case hi20n420 => (simp only [List.getElem?_toArray, List.getElem?_cons_succ, List.getElem?_cons_zero]; rfl)
    case hQ20n420 => exact fun _ _ _ h => h
    case hy20n420 => exact Or.inl ⟨by rfl, by (intro w hSw; (try dsimp only at hSw); go_simp; (try with_reducible rfl))⟩
    try simp only [Act.put, List.setIfInBounds_toArray, List.set_cons_zero, List.set_cons_succ]
    refine wpAnyH_done (by kernel_rfl) ?_ _
    clear ha1 ha2 ha3 ha4 ha5 ha6 ha7
    have BD := Lib.hid bd
    clear bd
    go_wp2
    go_loopw [4, 5] (fun t i wr => ∃ k : Nat, k ≤ os.length ∧ i = .int .i64 k ∧ t = .string (st (P ++ outTxt os k)) ∧ (∀ j : Nat, wr.cell? ⟨w.heap.size, j, none⟩ = (#[.slice fa fs.length fc, .slice ha zs.length hc, .int .i64 h, .int .i64 b, .int .i64 n, .slice sa ss.length sc, .slice ca cs.length cc, .slice oa os.length oc, .int .i64 kc, .bool each] : Array Value)[j]?) ∧ w.heap.size < wr.heap.size ∧ Below w.heap.size w wr) (fun _ i _ => os.length - (intOf i).toNat)
    case atStart => exact ⟨0, Nat.zero_le _, rfl, by rw [HS0.out], hHeld, yd, BD.out⟩
    case round =>
      clear HS0 BD hHeld yd
      obtain ⟨k, hk, rfl, rfl, hHeld, yd, bb⟩ := hrel
      have hsl : (st (P ++ outTxt os k)).size ≤ 80 + 22 * 1048576 := by
        have h1 := outTxt_len os k
        rw [st_size, List.length_append]
        omega
      by_cases hlt : k < os.length
      · rcases HRO.out _ bb with ⟨h', _⟩ | ⟨bl, off, c', hv, _, hbs, _, hc⟩
        · rw [h'] at hlt; cases hlt
        cases hv
        have cq := hc k hlt
        have hb1 := hio k
        have HST := Lib.hid (show st (P ++ outTxt os k) ++ (⟨#[32]⟩ : ByteArray) ++ digs (os.getD k 0) = st (P ++ outTxt os (k + 1)) by
          have h1 : (⟨#[32]⟩ : ByteArray) = st [32] := rfl
          rw [outTxt_step, h1, show digs (os.getD k 0) = st (digL (os.getD k 0)) from rfl]
          simp [st_append, List.append_assoc])
        have HDK := Lib.hid (fun (W : World) => sDigits_any (os.getD k 0) W hb1.1 hb1.2)
        have hs1 := digs_size (os.getD k 0)
        obtain ⟨S, hS⟩ : ∃ S, st (P ++ outTxt os k) = S := ⟨_, rfl⟩
        obtain ⟨D, hD⟩ : ∃ D, digs (os.getD k 0) = D := ⟨_, rfl⟩
        obtain ⟨y, hy⟩ : ∃ y, os.getD k 0 = y := ⟨_, rfl⟩
        rw [hS, hD] at HST
        rw [hS] at hsl ⊢
        rw [hD] at hs1 HDK
        rw [hy] at HDK cq
        have hz1 : S.size + (⟨#[32]⟩ : ByteArray).size ≤ 9223372036854775807 := by show _ + 1 ≤ _; omega
        have hz2 : (S ++ (⟨#[32]⟩ : ByteArray)).size + D.size ≤ 9223372036854775807 := by rw [ByteArray.size_append]; show _ + 1 + _ ≤ _; omega
        have ha1 := fun (W : World) => run_string_add_sum (P := Try.prog) W _ _ hz1
        have ha2 := fun (W : World) => run_string_add_sum (P := Try.prog) W _ _ hz2
        have hkl : (k : Int) < (os.length : Int) := by omega
        clear hS hD hy hs1 hz1 hz2 hc hb1 hsl
        go_wp2_with fail
        refine (HDK.out _).mono ?_
        rintro e w9 ⟨rfl, b9⟩
        have hh : ∀ j : Nat, w9.cell? ⟨w.heap.size, j, none⟩ = (#[.slice fa fs.length fc, .slice ha zs.length hc, .int .i64 h, .int .i64 b, .int .i64 n, .slice sa ss.length sc, .slice ca cs.length cc, .slice (some ⟨bl, off, none⟩) os.length oc, .int .i64 kc, .bool each] : Array Value)[j]? := fun j => (b9.cell (p := ⟨w.heap.size, j, none⟩) (by dsimp only; omega)).trans (hHeld j)
        have HH := Lib.hid hh
        have BN := Lib.hid (bb.trans (b9.mono bb.size))
        have yn := Nat.lt_of_lt_of_le yd b9.size
        clear hHeld bb b9 cq hh
        go_wp2
        go_roundw
        case rel => exact ⟨k + 1, hlt, by go_num, by rw [HST.out], HH.out, yn, BN.out⟩
        case measure => simp [intOf]; omega
      · obtain rfl : k = os.length := by omega
        go_wp2
        go_ret
        exact ⟨by rw [HVT.out]; rfl, bb⟩
  · have hb : inB code 0 5 = false := by simpa using hb
    have hnone : (⟨#[110, 111, 110, 101]⟩ : ByteArray) = T := by
      rw [← HT.out]
      unfold vmName
      rw [if_neg (by simpa [inB] using hb)]
      rfl
    go_enter Try.func51, Try.ntmps51
    go_wp2_with (go_at_call 64; refine (l1In_any _ _ _ _).mono ?_; rintro e w' ⟨rfl, rfl⟩)
    clear hnone
    generalize hx : (w.alloc _).alloc _ = x
    obtain ⟨bx, k1, _, _⟩ := alloc_two hx
    clear hx
    have q1 := k1.2.1
    have y1 := k1.1
    have hz1 : T.size + (⟨#[32]⟩ : ByteArray).size ≤ 9223372036854775807 := by show _ + 1 ≤ _; omega
    have hz2 : (T ++ (⟨#[32]⟩ : ByteArray)).size + D1.size ≤ 9223372036854775807 := by rw [ByteArray.size_append]; show _ + 1 + _ ≤ _; omega
    have hz3 : (T ++ (⟨#[32]⟩ : ByteArray) ++ D1).size + (⟨#[32]⟩ : ByteArray).size ≤ 9223372036854775807 := by rw [ByteArray.size_append, ByteArray.size_append]; show _ + 1 + _ + 1 ≤ _; omega
    have hz4 : (T ++ (⟨#[32]⟩ : ByteArray) ++ D1 ++ (⟨#[32]⟩ : ByteArray)).size + D2.size ≤ 9223372036854775807 := by rw [ByteArray.size_append, ByteArray.size_append, ByteArray.size_append]; show _ + 1 + _ + 1 + _ ≤ _; omega
    have hz5 : (T ++ (⟨#[32]⟩ : ByteArray) ++ D1 ++ (⟨#[32]⟩ : ByteArray) ++ D2).size + (⟨#[32]⟩ : ByteArray).size ≤ 9223372036854775807 := by rw [ByteArray.size_append, ByteArray.size_append, ByteArray.size_append, ByteArray.size_append]; show _ + 1 + _ + 1 + _ + 1 ≤ _; omega
    have hz6 : (T ++ (⟨#[32]⟩ : ByteArray) ++ D1 ++ (⟨#[32]⟩ : ByteArray) ++ D2 ++ (⟨#[32]⟩ : ByteArray)).size + D3.size ≤ 9223372036854775807 := by rw [ByteArray.size_append, ByteArray.size_append, ByteArray.size_append, ByteArray.size_append, ByteArray.size_append]; show _ + 1 + _ + 1 + _ + 1 + _ ≤ _; omega
    have hz7 : (T ++ (⟨#[32]⟩ : ByteArray) ++ D1 ++ (⟨#[32]⟩ : ByteArray) ++ D2 ++ (⟨#[32]⟩ : ByteArray) ++ D3).size + (⟨#[32, 111, 117, 116]⟩ : ByteArray).size ≤ 9223372036854775807 := by rw [ByteArray.size_append, ByteArray.size_append, ByteArray.size_append, ByteArray.size_append, ByteArray.size_append, ByteArray.size_append]; show _ + 1 + _ + 1 + _ + 1 + _ + 4 ≤ _; omega
    have ha1 := fun (W : World) => run_string_add_sum (P := Try.prog) W _ _ hz1
    have ha2 := fun (W : World) => run_string_add_sum (P := Try.prog) W _ _ hz2
    have ha3 := fun (W : World) => run_string_add_sum (P := Try.prog) W _ _ hz3
    have ha4 := fun (W : World) => run_string_add_sum (P := Try.prog) W _ _ hz4
    have ha5 := fun (W : World) => run_string_add_sum (P := Try.prog) W _ _ hz5
    have ha6 := fun (W : World) => run_string_add_sum (P := Try.prog) W _ _ hz6
    have ha7 := fun (W : World) => run_string_add_sum (P := Try.prog) W _ _ hz7
    clear hz1 hz2 hz3 hz4 hz5 hz6 hz7
    refine wp_region_held_drew (S := (fun w' => ∀ j : Nat, w'.cell? ⟨w.heap.size, j, none⟩ = (#[.slice fa fs.length fc, .slice ha zs.length hc, .int .i64 h, .int .i64 b, .int .i64 n, .slice sa ss.length sc, .slice ca cs.length cc, .slice oa os.length oc, .int .i64 code, .bool each] : Array Value)[j]?)) (by kernel_rfl) (by first | (dsimp only; exact q1) | (exact q1)) (fun hHeld => ?_)
    have bd : Below w.heap.size w x.drew := bx.trans (((Below.refl x.heap.size x).drew).mono bx.size)
    have yd : w.heap.size < x.drew.heap.size := by rw [World.size_drew]; exact y1
    generalize x.drew = xd at hHeld bd yd ⊢
    clear q1 y1 k1 bx
    refine' wpAnyH_take (i := 0) (oi := _) (v := _) ?hi0n508 (by kernel_rfl) (by kernel_rfl) (by kernel_rfl) ?hQ0n508 ?hy0n508 (by assumption) ?rest0n508
    case hi0n508 => (simp only [List.getElem?_toArray, List.getElem?_cons_succ, List.getElem?_cons_zero]; rfl)
    case hQ0n508 => exact fun _ _ _ h => h
    case hy0n508 => exact Or.inl ⟨by rfl, by (intro w hSw; (try dsimp only at hSw); go_simp; (try with_reducible rfl))⟩
    try simp only [Act.put, List.setIfInBounds_toArray, List.set_cons_zero, List.set_cons_succ]
    refine' wpAnyH_take (i := 1) (oi := _) (v := _) ?hi1n508 (by kernel_rfl) (by kernel_rfl) (by kernel_rfl) ?hQ1n508 ?hy1n508 (by assumption) ?rest1n508
    case hi1n508 => (simp only [List.getElem?_toArray, List.getElem?_cons_succ, List.getElem?_cons_zero]; rfl)
    case hQ1n508 => exact fun _ _ _ h => h
    case hy1n508 => exact Or.inl ⟨by rfl, by (intro w hSw; (try dsimp only at hSw); go_simp; (try with_reducible rfl))⟩
    try simp only [Act.put, List.setIfInBounds_toArray, List.set_cons_zero, List.set_cons_succ]
    refine' wpAnyH_take (i := 2) (oi := _) (v := _) ?hi2n508 (by kernel_rfl) (by kernel_rfl) (by kernel_rfl) ?hQ2n508 ?hy2n508 (by assumption) ?rest2n508
    case hi2n508 => (simp only [List.getElem?_toArray, List.getElem?_cons_succ, List.getElem?_cons_zero]; rfl)
    case hQ2n508 => exact fun _ _ _ h => h
    case hy2n508 => exact Or.inl ⟨by rfl, by (intro w hSw; (try dsimp only at hSw); go_simp; (try with_reducible rfl))⟩
    try simp only [Act.put, List.setIfInBounds_toArray, List.set_cons_zero, List.set_cons_succ]
    refine' wpAnyH_take (i := 3) (oi := _) (v := _) ?hi3n508 (by kernel_rfl) (by kernel_rfl) (by kernel_rfl) ?hQ3n508 ?hy3n508 (by assumption) ?rest3n508
    case hi3n508 => (simp only [List.getElem?_toArray, List.getElem?_cons_succ, List.getElem?_cons_zero]; rfl)
    case hQ3n508 => exact fun _ _ _ h => h
    case hy3n508 => exact Or.inl ⟨by rfl, by (intro w hSw; (try dsimp only at hSw); go_simp; (try with_reducible rfl))⟩
    try simp only [Act.put, List.setIfInBounds_toArray, List.set_cons_zero, List.set_cons_succ]
    refine' wpAnyH_take (i := 4) (oi := _) (v := _) ?hi4n508 (by kernel_rfl) (by kernel_rfl) (by kernel_rfl) ?hQ4n508 ?hy4n508 (by assumption) ?rest4n508
    case hi4n508 => (simp only [List.getElem?_toArray, List.getElem?_cons_succ, List.getElem?_cons_zero]; rfl)
    case hQ4n508 => exact fun _ _ _ h => h
    case hy4n508 => exact Or.inl ⟨by rfl, by (intro w hSw; (try dsimp only at hSw); go_simp; (try with_reducible rfl))⟩
    try simp only [Act.put, List.setIfInBounds_toArray, List.set_cons_zero, List.set_cons_succ]
    refine' wpAnyH_take (i := 8) (oi := _) (v := _) ?hi8n508 (by kernel_rfl) (by kernel_rfl) (by kernel_rfl) ?hQ8n508 ?hy8n508 (by assumption) ?rest8n508
    case hi8n508 => (simp only [List.getElem?_toArray, List.getElem?_cons_succ, List.getElem?_cons_zero]; rfl)
    case hQ8n508 => exact fun _ _ _ h => h
    case hy8n508 => exact Or.inl ⟨by rfl, by (intro w hSw; (try dsimp only at hSw); go_simp; (try with_reducible rfl))⟩
    try simp only [Act.put, List.setIfInBounds_toArray, List.set_cons_zero, List.set_cons_succ]
    refine' wpAnyH_take (i := 9) (oi := _) (v := _) ?hi9n508 (by kernel_rfl) (by kernel_rfl) (by kernel_rfl) ?hQ9n508 ?hy9n508 (by assumption) ?rest9n508
    case hi9n508 => (simp only [List.getElem?_toArray, List.getElem?_cons_succ, List.getElem?_cons_zero]; rfl)
    case hQ9n508 => exact fun _ _ _ h => h
    case hy9n508 => exact Or.inl ⟨by rfl, by (intro w hSw; (try dsimp only at hSw); go_simp; (try with_reducible rfl))⟩
    try simp only [Act.put, List.setIfInBounds_toArray, List.set_cons_zero, List.set_cons_succ]
    refine' wpAnyH_take (i := 10) (oi := _) (v := _) ?hi10n508 (by kernel_rfl) (by kernel_rfl) (by kernel_rfl) ?hQ10n508 ?hy10n508 (by assumption) ?rest10n508
    case hi10n508 => (simp only [List.getElem?_toArray, List.getElem?_cons_succ, List.getElem?_cons_zero]; rfl)
    case hQ10n508 => exact fun _ _ _ h => h
    case hy10n508 => exact Or.inl ⟨by rfl, by (intro w hSw; (try dsimp only at hSw); go_simp; (try with_reducible rfl))⟩
    try simp only [Act.put, List.setIfInBounds_toArray, List.set_cons_zero, List.set_cons_succ]
    refine' wpAnyH_take (i := 14) (oi := _) (v := _) ?hi14n508 (by kernel_rfl) (by kernel_rfl) (by kernel_rfl) ?hQ14n508 ?hy14n508 (by assumption) ?rest14n508
    case hi14n508 => (simp only [List.getElem?_toArray, List.getElem?_cons_succ, List.getElem?_cons_zero]; rfl)
    case hQ14n508 => exact fun _ _ _ h => h
    case hy14n508 => exact Or.inl ⟨by rfl, by (intro w hSw; (try dsimp only at hSw); go_simp; (try with_reducible rfl))⟩
    try simp only [Act.put, List.setIfInBounds_toArray, List.set_cons_zero, List.set_cons_succ]
    refine' wpAnyH_take (i := 15) (oi := _) (v := _) ?hi15n508 (by kernel_rfl) (by kernel_rfl) (by kernel_rfl) ?hQ15n508 ?hy15n508 (by assumption) ?rest15n508
    case hi15n508 => (simp only [List.getElem?_toArray, List.getElem?_cons_succ, List.getElem?_cons_zero]; rfl)
    case hQ15n508 => exact fun _ _ _ h => h
    case hy15n508 => exact Or.inl ⟨by rfl, by (intro w hSw; (try dsimp only at hSw); go_simp; (try with_reducible rfl))⟩
    try simp only [Act.put, List.setIfInBounds_toArray, List.set_cons_zero, List.set_cons_succ]
    refine wpAnyH_ready (rs := [5]) (by kernel_rfl) (by simp) ?_
    refine AllReadyH.cons (by (simp only [List.getElem?_toArray, List.getElem?_cons_succ, List.getElem?_cons_zero]; rfl)) (fun K hK => ?_) AllReadyH.nil
    go_simp
    refine (HD1.out _).mono ?_
    rintro e w5 ⟨hu, b9⟩
    subst hu
    dsimp only
    refine hK.out _ _ (by first | (dsimp only; exact fun j => (b9.cell (p := ⟨w.heap.size, j, none⟩) (by dsimp only; omega)).trans (hHeld j)) | (exact fun j => (b9.cell (p := ⟨w.heap.size, j, none⟩) (by dsimp only; omega)).trans (hHeld j))) (fun hHeld => ?_)
    clear hK K
    try simp only [Act.put, List.setIfInBounds_toArray, List.set_cons_zero, List.set_cons_succ]
    replace yd := Nat.lt_of_lt_of_le yd b9.size
    replace bd := bd.trans (b9.mono bd.size)
    clear b9
    refine' wpAnyH_take (i := 6) (oi := _) (v := _) ?hi6n513 (by kernel_rfl) (by kernel_rfl) (by kernel_rfl) ?hQ6n513 ?hy6n513 (by assumption) ?rest6n513
    case hi6n513 => (simp only [List.getElem?_toArray, List.getElem?_cons_succ, List.getElem?_cons_zero]; rfl)
    case hQ6n513 => exact fun _ _ _ h => h
    case hy6n513 => exact Or.inl ⟨by rfl, by (intro w hSw; (try dsimp only at hSw); go_simp; (try with_reducible rfl))⟩
    try simp only [Act.put, List.setIfInBounds_toArray, List.set_cons_zero, List.set_cons_succ]
    refine' wpAnyH_take (i := 7) (oi := _) (v := _) ?hi7n513 (by kernel_rfl) (by kernel_rfl) (by kernel_rfl) ?hQ7n513 ?hy7n513 (by assumption) ?rest7n513
    case hi7n513 => (simp only [List.getElem?_toArray, List.getElem?_cons_succ, List.getElem?_cons_zero]; rfl)
    case hQ7n513 => exact fun _ _ _ h => h
    case hy7n513 => exact Or.inl ⟨by rfl, by (intro w hSw; (try dsimp only at hSw); go_simp; (try with_reducible rfl))⟩
    try simp only [Act.put, List.setIfInBounds_toArray, List.set_cons_zero, List.set_cons_succ]
    refine wpAnyH_ready (rs := [11]) (by kernel_rfl) (by simp) ?_
    refine AllReadyH.cons (by (simp only [List.getElem?_toArray, List.getElem?_cons_succ, List.getElem?_cons_zero]; rfl)) (fun K hK => ?_) AllReadyH.nil
    go_simp
    refine (HD2.out _).mono ?_
    rintro e w6 ⟨hu, b9⟩
    subst hu
    dsimp only
    refine hK.out _ _ (by first | (dsimp only; exact fun j => (b9.cell (p := ⟨w.heap.size, j, none⟩) (by dsimp only; omega)).trans (hHeld j)) | (exact fun j => (b9.cell (p := ⟨w.heap.size, j, none⟩) (by dsimp only; omega)).trans (hHeld j))) (fun hHeld => ?_)
    clear hK K
    try simp only [Act.put, List.setIfInBounds_toArray, List.set_cons_zero, List.set_cons_succ]
    replace yd := Nat.lt_of_lt_of_le yd b9.size
    replace bd := bd.trans (b9.mono bd.size)
    clear b9
    refine' wpAnyH_take (i := 12) (oi := _) (v := _) ?hi12n518 (by kernel_rfl) (by kernel_rfl) (by kernel_rfl) ?hQ12n518 ?hy12n518 (by assumption) ?rest12n518
    case hi12n518 => (simp only [List.getElem?_toArray, List.getElem?_cons_succ, List.getElem?_cons_zero]; rfl)
    case hQ12n518 => exact fun _ _ _ h => h
    case hy12n518 => exact Or.inl ⟨by rfl, by (intro w hSw; (try dsimp only at hSw); go_simp; (try with_reducible rfl))⟩
    try simp only [Act.put, List.setIfInBounds_toArray, List.set_cons_zero, List.set_cons_succ]
    refine' wpAnyH_take (i := 13) (oi := _) (v := _) ?hi13n518 (by kernel_rfl) (by kernel_rfl) (by kernel_rfl) ?hQ13n518 ?hy13n518 (by assumption) ?rest13n518
    case hi13n518 => (simp only [List.getElem?_toArray, List.getElem?_cons_succ, List.getElem?_cons_zero]; rfl)
    case hQ13n518 => exact fun _ _ _ h => h
    case hy13n518 => exact Or.inl ⟨by rfl, by (intro w hSw; (try dsimp only at hSw); go_simp; (try with_reducible rfl))⟩
    try simp only [Act.put, List.setIfInBounds_toArray, List.set_cons_zero, List.set_cons_succ]
    refine wpAnyH_ready (rs := [16]) (by kernel_rfl) (by simp) ?_
    refine AllReadyH.cons (by (simp only [List.getElem?_toArray, List.getElem?_cons_succ, List.getElem?_cons_zero]; rfl)) (fun K hK => ?_) AllReadyH.nil
    go_simp
    refine (HRM.out _ bd).mono ?_
    rintro e w7 ⟨hu, b9⟩
    subst hu
    dsimp only
    refine hK.out _ _ (by first | (dsimp only; exact fun j => (b9.cell (p := ⟨w.heap.size, j, none⟩) (by dsimp only; omega)).trans (hHeld j)) | (exact fun j => (b9.cell (p := ⟨w.heap.size, j, none⟩) (by dsimp only; omega)).trans (hHeld j))) (fun hHeld => ?_)
    clear hK K
    try simp only [Act.put, List.setIfInBounds_toArray, List.set_cons_zero, List.set_cons_succ]
    replace yd := Nat.lt_of_lt_of_le yd b9.size
    replace bd := bd.trans (b9.mono bd.size)
    clear b9
    refine wpAnyH_ready (rs := [17]) (by kernel_rfl) (by simp) ?_
    refine AllReadyH.cons (by (simp only [List.getElem?_toArray, List.getElem?_cons_succ, List.getElem?_cons_zero]; rfl)) (fun K hK => ?_) AllReadyH.nil
    go_simp
    refine (HD3.out _).mono ?_
    rintro e w8 ⟨hu, b9⟩
    subst hu
    dsimp only
    refine hK.out _ _ (by first | (dsimp only; exact fun j => (b9.cell (p := ⟨w.heap.size, j, none⟩) (by dsimp only; omega)).trans (hHeld j)) | (exact fun j => (b9.cell (p := ⟨w.heap.size, j, none⟩) (by dsimp only; omega)).trans (hHeld j))) (fun hHeld => ?_)
    clear hK K
    try simp only [Act.put, List.setIfInBounds_toArray, List.set_cons_zero, List.set_cons_succ]
    replace yd := Nat.lt_of_lt_of_le yd b9.size
    replace bd := bd.trans (b9.mono bd.size)
    clear b9
    refine' wpAnyH_take (i := 18) (oi := _) (v := _) ?hi18n527 (by kernel_rfl) (by kernel_rfl) (by kernel_rfl) ?hQ18n527 ?hy18n527 (by assumption) ?rest18n527
    case hi18n527 => (simp only [List.getElem?_toArray, List.getElem?_cons_succ, List.getElem?_cons_zero]; rfl)
    case hQ18n527 => exact fun _ _ _ h => h
    case hy18n527 => exact Or.inl ⟨by rfl, by (intro w hSw; (try dsimp only at hSw); go_simp; (try with_reducible rfl))⟩
    try simp only [Act.put, List.setIfInBounds_toArray, List.set_cons_zero, List.set_cons_succ]
    refine' wpAnyH_take (i := 19) (oi := _) (v := _) ?hi19n527 (by kernel_rfl) (by kernel_rfl) (by kernel_rfl) ?hQ19n527 ?hy19n527 (by assumption) ?rest19n527
    case hi19n527 => (simp only [List.getElem?_toArray, List.getElem?_cons_succ, List.getElem?_cons_zero]; rfl)
    case hQ19n527 => exact fun _ _ _ h => h
    case hy19n527 => exact Or.inl ⟨by rfl, by (intro w hSw; (try dsimp only at hSw); go_simp; (try with_reducible rfl))⟩
    try simp only [Act.put, List.setIfInBounds_toArray, List.set_cons_zero, List.set_cons_succ]
    refine' wpAnyH_take (i := 20) (oi := _) (v := _) ?hi20n527 (by kernel_rfl) (by kernel_rfl) (by kernel_rfl) ?hQ20n527 ?hy20n527 (by assumption) ?rest20n527
    case hi20n527 => (simp only [List.getElem?_toArray, List.getElem?_cons_succ, List.getElem?_cons_zero]; rfl)
    case hQ20n527 => exact fun _ _ _ h => h
    case hy20n527 => exact Or.inl ⟨by rfl, by (intro w hSw; (try dsimp only at hSw); go_simp; (try with_reducible rfl))⟩
    try simp only [Act.put, List.setIfInBounds_toArray, List.set_cons_zero, List.set_cons_succ]
    refine wpAnyH_done (by kernel_rfl) ?_ _
    clear ha1 ha2 ha3 ha4 ha5 ha6 ha7
    have BD := Lib.hid bd
    clear bd
    go_wp2
    go_loopw [4, 5] (fun t i wr => ∃ k : Nat, k ≤ os.length ∧ i = .int .i64 k ∧ t = .string (st (P ++ outTxt os k)) ∧ (∀ j : Nat, wr.cell? ⟨w.heap.size, j, none⟩ = (#[.slice fa fs.length fc, .slice ha zs.length hc, .int .i64 h, .int .i64 b, .int .i64 n, .slice sa ss.length sc, .slice ca cs.length cc, .slice oa os.length oc, .int .i64 code, .bool each] : Array Value)[j]?) ∧ w.heap.size < wr.heap.size ∧ Below w.heap.size w wr) (fun _ i _ => os.length - (intOf i).toNat)
    case atStart => exact ⟨0, Nat.zero_le _, rfl, by rw [HS0.out], hHeld, yd, BD.out⟩
    case round =>
      clear HS0 BD hHeld yd
      obtain ⟨k, hk, rfl, rfl, hHeld, yd, bb⟩ := hrel
      have hsl : (st (P ++ outTxt os k)).size ≤ 80 + 22 * 1048576 := by
        have h1 := outTxt_len os k
        rw [st_size, List.length_append]
        omega
      by_cases hlt : k < os.length
      · rcases HRO.out _ bb with ⟨h', _⟩ | ⟨bl, off, c', hv, _, hbs, _, hc⟩
        · rw [h'] at hlt; cases hlt
        cases hv
        have cq := hc k hlt
        have hb1 := hio k
        have HST := Lib.hid (show st (P ++ outTxt os k) ++ (⟨#[32]⟩ : ByteArray) ++ digs (os.getD k 0) = st (P ++ outTxt os (k + 1)) by
          have h1 : (⟨#[32]⟩ : ByteArray) = st [32] := rfl
          rw [outTxt_step, h1, show digs (os.getD k 0) = st (digL (os.getD k 0)) from rfl]
          simp [st_append, List.append_assoc])
        have HDK := Lib.hid (fun (W : World) => sDigits_any (os.getD k 0) W hb1.1 hb1.2)
        have hs1 := digs_size (os.getD k 0)
        obtain ⟨S, hS⟩ : ∃ S, st (P ++ outTxt os k) = S := ⟨_, rfl⟩
        obtain ⟨D, hD⟩ : ∃ D, digs (os.getD k 0) = D := ⟨_, rfl⟩
        obtain ⟨y, hy⟩ : ∃ y, os.getD k 0 = y := ⟨_, rfl⟩
        rw [hS, hD] at HST
        rw [hS] at hsl ⊢
        rw [hD] at hs1 HDK
        rw [hy] at HDK cq
        have hz1 : S.size + (⟨#[32]⟩ : ByteArray).size ≤ 9223372036854775807 := by show _ + 1 ≤ _; omega
        have hz2 : (S ++ (⟨#[32]⟩ : ByteArray)).size + D.size ≤ 9223372036854775807 := by rw [ByteArray.size_append]; show _ + 1 + _ ≤ _; omega
        have ha1 := fun (W : World) => run_string_add_sum (P := Try.prog) W _ _ hz1
        have ha2 := fun (W : World) => run_string_add_sum (P := Try.prog) W _ _ hz2
        have hkl : (k : Int) < (os.length : Int) := by omega
        clear hS hD hy hs1 hz1 hz2 hc hb1 hsl
        go_wp2_with fail
        refine (HDK.out _).mono ?_
        rintro e w9 ⟨rfl, b9⟩
        have hh : ∀ j : Nat, w9.cell? ⟨w.heap.size, j, none⟩ = (#[.slice fa fs.length fc, .slice ha zs.length hc, .int .i64 h, .int .i64 b, .int .i64 n, .slice sa ss.length sc, .slice ca cs.length cc, .slice (some ⟨bl, off, none⟩) os.length oc, .int .i64 code, .bool each] : Array Value)[j]? := fun j => (b9.cell (p := ⟨w.heap.size, j, none⟩) (by dsimp only; omega)).trans (hHeld j)
        have HH := Lib.hid hh
        have BN := Lib.hid (bb.trans (b9.mono bb.size))
        have yn := Nat.lt_of_lt_of_le yd b9.size
        clear hHeld bb b9 cq hh
        go_wp2
        go_roundw
        case rel => exact ⟨k + 1, hlt, by go_num, by rw [HST.out], HH.out, yn, BN.out⟩
        case measure => simp [intOf]; omega
      · obtain rfl : k = os.length := by omega
        go_wp2
        go_ret
        exact ⟨by rw [HVT.out]; rfl, bb⟩

end Go.Proofs.Ytkpkofddfjgmpaa
