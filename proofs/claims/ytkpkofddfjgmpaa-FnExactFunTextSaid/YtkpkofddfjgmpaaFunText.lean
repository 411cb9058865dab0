/- FunText: a function as text. -/
import Derived.Test.YtkpkofddfjgmpaaOpText
namespace Go.Proofs.Ytkpkofddfjgmpaa
open Go.RowKit
set_option linter.unusedVariables false
set_option linter.unusedSimpArgs false

def lineTxt (i : Nat) (o : O3) : List UInt8 := digL (i : Int) ++ [32] ++ opTxt o ++ [10]
theorem lineTxt_len (i : Nat) (o : O3) : (lineTxt i o).length ≤ 72 := by
  have h1 := digL_len (i : Int)
  have h2 := opTxt_len o
  unfold lineTxt
  simp only [List.length_append, List.length_cons, List.length_nil]
  omega
def linesTxt (os : List O3) (k : Nat) : List UInt8 := (List.range k).flatMap fun i => match os[i]? with | some o => lineTxt i o | none => []
theorem linesTxt_step {os : List O3} {k : Nat} (h : k < os.length) : linesTxt os (k + 1) = linesTxt os k ++ lineTxt k os[k] := by
  unfold linesTxt
  rw [List.range_succ, List.flatMap_append]
  simp [List.getElem?_eq_getElem h]
theorem linesTxt_len (os : List O3) : ∀ k, k ≤ os.length → (linesTxt os k).length ≤ 72 * k
  | 0, _ => by simp [linesTxt]
  | k + 1, h => by
    rw [linesTxt_step (by omega), List.length_append]
    have h1 := linesTxt_len os k (by omega)
    have h2 := lineTxt_len k os[k]
    omega
def funTxt (f : Int) (os : List O3) : List UInt8 := [102, 117, 110, 32] ++ digL f ++ [10] ++ linesTxt os os.length
theorem funTxt_len (f : Int) (os : List O3) : (funTxt f os).length ≤ 26 + 72 * os.length := by
  have h1 := digL_len f
  have h2 := linesTxt_len os os.length (Nat.le_refl _)
  unfold funTxt
  simp only [List.length_append, List.length_cons, List.length_nil]
  omega
def opsIn (os : List O3) : Prop := ∀ o ∈ os, o3In o
theorem opsIn.at_ {os : List O3} (h : opsIn os) {k : Nat} (hk : k < os.length) : o3In os[k] := h _ (List.getElem_mem hk)

set_option maxHeartbeats 800000 in
set_option maxRecDepth 100000 in
theorem iFunText_any {B : Nat} (f : Int) (v : Value) (os : List O3) (w : World) (hr : RdO B w v os) (hf0 : -9223372036854775808 ≤ f) (hf1 : f ≤ 9223372036854775807) (ho : opsIn os) (hn : os.length ≤ 4294967296) :
    Calls Try.prog 31 #[.agg #[.int .i64 f, v]] w fun e w' => e = .returned (.string (st (funTxt f os))) ∧ Below w.heap.size w w' := by
  have HR := Lib.hid (fun (W : World) (hb : Below w.heap.size w W) => hr.below' hb)
  obtain ⟨a, cap, rfl⟩ := hr.form
  clear hr
  have hd := fun (W : World) => iDigits_any f W hf0 hf1
  have hds := digs_size f
  have HDL := Lib.hid (show digs f = st (digL f) from rfl)
  obtain ⟨D, hD⟩ : ∃ D, digs f = D := ⟨_, rfl⟩
  rw [hD] at hd hds HDL
  have HD := Lib.hid hd
  have hz1 : (⟨#[102, 117, 110, 32]⟩ : ByteArray).size + D.size ≤ 9223372036854775807 := by show 4 + _ ≤ _; omega
  have hz2 : ((⟨#[102, 117, 110, 32]⟩ : ByteArray) ++ D).size + (⟨#[10]⟩ : ByteArray).size ≤ 9223372036854775807 := by rw [ByteArray.size_append]; show 4 + _ + 1 ≤ _; omega
  have hPl : ([102, 117, 110, 32] ++ digL f ++ [10] : List UInt8).length ≤ 26 := by
    have h1 := digL_len f
    simp only [List.length_append, List.length_cons, List.length_nil]
    omega
  have HS0 := Lib.hid (show (⟨#[102, 117, 110, 32]⟩ : ByteArray) ++ D ++ (⟨#[10]⟩ : ByteArray) = st ([102, 117, 110, 32] ++ digL f ++ [10] ++ linesTxt os 0) by
    rw [HDL.out]
    have h1 : (⟨#[102, 117, 110, 32]⟩ : ByteArray) = st [102, 117, 110, 32] := rfl
    have h2 : (⟨#[10]⟩ : ByteArray) = st [10] := rfl
    rw [h1, h2, st_append, st_append]
    simp [linesTxt])
  have HFT := Lib.hid (show funTxt f os = [102, 117, 110, 32] ++ digL f ++ [10] ++ linesTxt os os.length from rfl)
  obtain ⟨P, hP⟩ : ∃ P : List UInt8, [102, 117, 110, 32] ++ digL f ++ [10] = P := ⟨_, rfl⟩
  rw [hP] at hPl HS0 HFT
  clear hd hD hds hP
  go_enter Try.func31, Try.ntmps31
  go_wp2_with fail
  refine (HD.out _).mono ?_
  rintro e w1 ⟨rfl, rfl⟩
  generalize hx : w.alloc _ = x
  obtain ⟨bx, k1⟩ := Bx.alloc hx
  clear hx
  have q1 := k1.2.1
  have BX := Lib.hid bx
  clear bx k1
  go_wp2
  go_loopw [3, 14] (fun t i wr => ∃ k : Nat, k ≤ os.length ∧ i = .int .i64 k ∧ t = .string (st (P ++ linesTxt os k)) ∧ Below w.heap.size w wr) (fun _ i _ => os.length - (intOf i).toNat)
  case atStart => exact ⟨0, Nat.zero_le _, rfl, by rw [HS0.out], BX.out⟩
  case round =>
    clear q1 HS0 BX
    obtain ⟨k, hk, rfl, rfl, bb⟩ := hrel
    have hsl : (st (P ++ linesTxt os k)).size ≤ 26 + 72 * 4294967296 := by
      have h1 := linesTxt_len os k hk
      rw [st_size, List.length_append]
      omega
    by_cases hlt : k < os.length
    · obtain ⟨b, off, cap', hs, hB, hbs, hcap, c0, c1, c2⟩ := RdO.at_ (HR.out _ bb) hlt
      cases hs
      have HST := Lib.hid (show st (P ++ linesTxt os k) ++ (digs (k : Int) ++ (⟨#[32]⟩ : ByteArray) ++ st (opTxt os[k]) ++ (⟨#[10]⟩ : ByteArray)) = st (P ++ linesTxt os (k + 1)) by
        have h1 : (⟨#[32]⟩ : ByteArray) = st [32] := rfl
        have h2 : (⟨#[10]⟩ : ByteArray) = st [10] := rfl
        rw [linesTxt_step hlt, h1, h2, show digs (k : Int) = st (digL (k : Int)) from rfl]
        simp only [st_append, lineTxt, List.append_assoc])
      have hos := ho.at_ hlt
      have HO := Lib.hid (fun (W : World) => iOpText_any os[k] W hos)
      have HDK := Lib.hid (fun (W : World) => iDigits_any (k : Int) W (by omega) (by omega))
      have hs1 := digs_size (k : Int)
      have hs2 : (st (opTxt os[k])).size ≤ 49 := by rw [st_size]; exact opTxt_len _
      obtain ⟨S, hS⟩ : ∃ S, st (P ++ linesTxt os k) = S := ⟨_, rfl⟩
      obtain ⟨D1, hD1⟩ : ∃ D1, digs (k : Int) = D1 := ⟨_, rfl⟩
      obtain ⟨T, hT⟩ : ∃ T, st (opTxt os[k]) = T := ⟨_, rfl⟩
      rw [hS, hD1, hT] at HST
      rw [hS] at hsl ⊢
      rw [hD1] at HDK hs1
      rw [hT] at HO hs2
      clear hS hD1 hT hos
      have hz1 : D1.size + (⟨#[32]⟩ : ByteArray).size ≤ 9223372036854775807 := by show _ + 1 ≤ _; omega
      have hz2 : (D1 ++ (⟨#[32]⟩ : ByteArray)).size + T.size ≤ 9223372036854775807 := by rw [ByteArray.size_append]; show _ + 1 + _ ≤ _; omega
      have hz3 : (D1 ++ (⟨#[32]⟩ : ByteArray) ++ T).size + (⟨#[10]⟩ : ByteArray).size ≤ 9223372036854775807 := by rw [ByteArray.size_append, ByteArray.size_append]; show _ + 1 + _ + 1 ≤ _; omega
      have hz4 : S.size + (D1 ++ (⟨#[32]⟩ : ByteArray) ++ T ++ (⟨#[10]⟩ : ByteArray)).size ≤ 9223372036854775807 := by rw [ByteArray.size_append, ByteArray.size_append, ByteArray.size_append]; show _ + (_ + 1 + _ + 1) ≤ _; omega
      have ha1 := fun (W : World) => run_string_add_sum (P := Try.prog) W _ _ hz1
      have ha2 := fun (W : World) => run_string_add_sum (P := Try.prog) W _ _ hz2
      have ha3 := fun (W : World) => run_string_add_sum (P := Try.prog) W _ _ hz3
      have ha4 := fun (W : World) => run_string_add_sum (P := Try.prog) W _ _ hz4
      clear hz1 hz2 hz3 hz4 hs1 hs2 hsl
      go_wp2_with fail
      generalize hy : wr.alloc _ = y
      obtain ⟨b1, k2⟩ := Bx.alloc hy
      clear hy
      have l2 := k2.1
      have q0 := k2.2.1 0
      have q1 := k2.2.1 1
      have q2 := k2.2.1 2
      simp at q0 q1 q2
      have B1 := Lib.hid (bb.trans (b1.mono bb.size))
      have hbz := Nat.le_trans bb.size b1.size
      clear b1 k2 bb c0 c1 c2
      go_region_held3 (fun w' => w'.cell? ⟨wr.heap.size, 0, none⟩ = some (.int .i64 os[k].c) ∧ w'.cell? ⟨wr.heap.size, 1, none⟩ = some (.int .i64 os[k].n) ∧ w'.cell? ⟨wr.heap.size, 2, none⟩ = some (.int .i64 os[k].m))
        (first | (go_split_ands; refine ⟨?_, ?_, ?_⟩ <;> (refine (b9.cell (by simp only [World.size_drew]; omega)).trans ?_; with_reducible assumption)) | (go_keep; done)) (first | (go_at_call 69; refine (HDK.out _).mono ?_; rintro e w9 ⟨hu, hv⟩; subst hu; subst hv) | (go_at_call 70; refine (HO.out _).mono ?_; rintro e w9 ⟨hu, b9⟩; subst hu))
      have B9 := Lib.hid (B1.out.trans ((((Below.refl _ _).drew).trans b9).mono hbz))
      clear b9 B1 q0 q1 q2 ha1 ha2 ha3 ha4
      go_wp2
      go_roundw
      case rel => exact ⟨k + 1, hlt, by go_num, by rw [HST.out], B9.out⟩
      case measure => simp [intOf]; omega
    · obtain rfl : k = os.length := by omega
      go_wp2
      go_ret
      exact ⟨by rw [HFT.out]; rfl, bb⟩

set_option maxHeartbeats 800000 in
set_option maxRecDepth 100000 in
theorem sFunText_any {B : Nat} (f : Int) (v : Value) (os : List O3) (w : World) (hr : RdO B w v os) (hf0 : -9223372036854775808 ≤ f) (hf1 : f ≤ 9223372036854775807) (ho : opsIn os) (hn : os.length ≤ 4294967296) :
    Calls Try.prog 29 #[.agg #[.int .i64 f, v]] w fun e w' => e = .returned (.string (st (funTxt f os))) ∧ Below w.heap.size w w' := by
  have HR := Lib.hid (fun (W : World) (hb : Below w.heap.size w W) => hr.below' hb)
  obtain ⟨a, cap, rfl⟩ := hr.form
  clear hr
  have hd := fun (W : World) => sDigits_any f W hf0 hf1
  have hds := digs_size f
  have HDL := Lib.hid (show digs f = st (digL f) from rfl)
  obtain ⟨D, hD⟩ : ∃ D, digs f = D := ⟨_, rfl⟩
  rw [hD] at hd hds HDL
  have HD := Lib.hid hd
  have hz1 : (⟨#[102, 117, 110, 32]⟩ : ByteArray).size + D.size ≤ 9223372036854775807 := by show 4 + _ ≤ _; omega
  have hz2 : ((⟨#[102, 117, 110, 32]⟩ : ByteArray) ++ D).size + (⟨#[10]⟩ : ByteArray).size ≤ 9223372036854775807 := by rw [ByteArray.size_append]; show 4 + _ + 1 ≤ _; omega
  have hPl : ([102, 117, 110, 32] ++ digL f ++ [10] : List UInt8).length ≤ 26 := by
    have h1 := digL_len f
    simp only [List.length_append, List.length_cons, List.length_nil]
    omega
  have HS0 := Lib.hid (show (⟨#[102, 117, 110, 32]⟩ : ByteArray) ++ D ++ (⟨#[10]⟩ : ByteArray) = st ([102, 117, 110, 32] ++ digL f ++ [10] ++ linesTxt os 0) by
    rw [HDL.out]
    have h1 : (⟨#[102, 117, 110, 32]⟩ : ByteArray) = st [102, 117, 110, 32] := rfl
    have h2 : (⟨#[10]⟩ : ByteArray) = st [10] := rfl
    rw [h1, h2, st_append, st_append]
    simp [linesTxt])
  have HFT := Lib.hid (show funTxt f os = [102, 117, 110, 32] ++ digL f ++ [10] ++ linesTxt os os.length from rfl)
  obtain ⟨P, hP⟩ : ∃ P : List UInt8, [102, 117, 110, 32] ++ digL f ++ [10] = P := ⟨_, rfl⟩
  rw [hP] at hPl HS0 HFT
  clear hd hD hds hP
  go_enter Try.func29, Try.ntmps29
  go_wp2_with fail
  refine (HD.out _).mono ?_
  rintro e w1 ⟨rfl, b1⟩
  generalize hx : w.alloc _ = x at b1
  obtain ⟨bx, k1⟩ := Bx.alloc hx
  clear hx
  replace k1 := k1.below b1 k1.1
  have BX := Lib.hid (bx.trans (b1.mono bx.size))
  have K1 := Lib.hid k1
  clear bx k1 b1
  go_wp2
  go_loopw [3, 4] (fun t i wr => ∃ k : Nat, k ≤ os.length ∧ i = .int .i64 k ∧ t = .string (st (P ++ linesTxt os k)) ∧ Bx wr w.heap.size #[.int .i64 f, .slice a os.length cap] ∧ Below w.heap.size w wr) (fun _ i _ => os.length - (intOf i).toNat)
  case atStart => exact ⟨0, Nat.zero_le _, rfl, by rw [HS0.out], K1.out, BX.out⟩
  case round =>
    clear K1 HS0 BX
    obtain ⟨k, hk, rfl, rfl, k1, bb⟩ := hrel
    have c9 := k1.2.1 1
    simp at c9
    have l1 := k1.1
    have hsl : (st (P ++ linesTxt os k)).size ≤ 26 + 72 * 4294967296 := by
      have h1 := linesTxt_len os k hk
      rw [st_size, List.length_append]
      omega
    by_cases hlt : k < os.length
    · obtain ⟨b, off, cap', hs, hB, hbs, hcap, c0, c1, c2⟩ := RdO.at_ (HR.out _ bb) hlt
      cases hs
      have HST := Lib.hid (show st (P ++ linesTxt os k) ++ digs (k : Int) ++ (⟨#[32]⟩ : ByteArray) ++ st (opTxt os[k]) ++ (⟨#[10]⟩ : ByteArray) = st (P ++ linesTxt os (k + 1)) by
        have h1 : (⟨#[32]⟩ : ByteArray) = st [32] := rfl
        have h2 : (⟨#[10]⟩ : ByteArray) = st [10] := rfl
        rw [linesTxt_step hlt, h1, h2, show digs (k : Int) = st (digL (k : Int)) from rfl]
        simp only [st_append, lineTxt, List.append_assoc])
      have hos := ho.at_ hlt
      have HO := Lib.hid (fun (W : World) => sOpText_any os[k] W hos)
      have HDK := Lib.hid (fun (W : World) => sDigits_any (k : Int) W (by omega) (by omega))
      have hs1 := digs_size (k : Int)
      have hs2 : (st (opTxt os[k])).size ≤ 49 := by rw [st_size]; exact opTxt_len _
      obtain ⟨S, hS⟩ : ∃ S, st (P ++ linesTxt os k) = S := ⟨_, rfl⟩
      obtain ⟨D1, hD1⟩ : ∃ D1, digs (k : Int) = D1 := ⟨_, rfl⟩
      obtain ⟨T, hT⟩ : ∃ T, st (opTxt os[k]) = T := ⟨_, rfl⟩
      rw [hS, hD1, hT] at HST
      rw [hS] at hsl ⊢
      rw [hD1] at HDK hs1
      rw [hT] at HO hs2
      clear hS hD1 hT hos
      have hz1 : S.size + D1.size ≤ 9223372036854775807 := by omega
      have hz2 : (S ++ D1).size + (⟨#[32]⟩ : ByteArray).size ≤ 9223372036854775807 := by rw [ByteArray.size_append]; show _ + 1 ≤ _; omega
      have hz3 : (S ++ D1 ++ (⟨#[32]⟩ : ByteArray)).size + T.size ≤ 9223372036854775807 := by rw [ByteArray.size_append, ByteArray.size_append]; show _ + 1 + _ ≤ _; omega
      have hz4 : (S ++ D1 ++ (⟨#[32]⟩ : ByteArray) ++ T).size + (⟨#[10]⟩ : ByteArray).size ≤ 9223372036854775807 := by rw [ByteArray.size_append, ByteArray.size_append, ByteArray.size_append]; show _ + 1 + _ + 1 ≤ _; omega
      have ha1 := fun (W : World) => run_string_add_sum (P := Try.prog) W _ _ hz1
      have ha2 := fun (W : World) => run_string_add_sum (P := Try.prog) W _ _ hz2
      have ha3 := fun (W : World) => run_string_add_sum (P := Try.prog) W _ _ hz3
      have ha4 := fun (W : World) => run_string_add_sum (P := Try.prog) W _ _ hz4
      clear hz1 hz2 hz3 hz4 hs1 hs2 hsl
      go_wp2_with fail
      have hbz := bb.size
      have l2 : b < wr.heap.size := by omega
      have e1 : IntKind.i64.wrap (k : Int) = (k : Int) := IntWalk.i64_in _ (by omega)
      have e2 : (k : Int) < (os.length : Int) := by omega
      have K1 := Lib.hid k1
      have B1 := Lib.hid bb
      clear k1 bb
      go_region_held3 (fun w' => w'.cell? ⟨w.heap.size, 1, none⟩ = some (.slice (some ⟨b, off, none⟩) os.length cap) ∧ w'.cell? ⟨b, off + k * 3, none⟩ = some (.int .i64 os[k].c) ∧ w'.cell? ⟨b, off + k * 3 + 1, none⟩ = some (.int .i64 os[k].n) ∧ w'.cell? ⟨b, off + k * 3 + 2, none⟩ = some (.int .i64 os[k].m))
        (first | (go_split_ands; refine ⟨?_, ?_, ?_, ?_⟩ <;> (first | (refine (b9.cell (by simp only [World.size_drew]; omega)).trans ?_; with_reducible assumption) | (refine (b8.cell (by simp only [World.size_drew]; omega)).trans ?_; with_reducible assumption))) | (go_keep; done)) (first | (go_at_call 66; refine (HDK.out _).mono ?_; rintro e w8 ⟨hu, b8⟩; have h8 := Nat.lt_of_lt_of_le l1 b8.size; have h8' := Nat.lt_of_lt_of_le l2 b8.size; subst hu) | (go_at_call 67; refine (HO.out _).mono ?_; rintro e w9 ⟨hu, b9⟩; subst hu))
      have B8 := Lib.hid (((Below.refl _ _).drew).trans (b8.trans (b9.mono b8.size)))
      clear b8 b9 h8 h8'
      have K9 := Lib.hid (K1.out.below B8.out l1)
      have B9 := Lib.hid (B1.out.trans (B8.out.mono hbz))
      clear B8 B1 K1 c9 c0 c1 c2 ha1 ha2 ha3 ha4
      go_wp2
      go_roundw
      case rel => exact ⟨k + 1, hlt, by go_num, by rw [HST.out], K9.out, B9.out⟩
      case measure => simp [intOf]; omega
    · obtain rfl : k = os.length := by omega
      go_wp2
      go_ret
      exact ⟨by rw [HFT.out]; rfl, bb⟩

end Go.Proofs.Ytkpkofddfjgmpaa
