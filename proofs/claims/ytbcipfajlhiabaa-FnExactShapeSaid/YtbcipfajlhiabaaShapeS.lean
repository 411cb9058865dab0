/- Shape of the reference. -/
import Derived.Test.YtbcipfajlhiabaaShapeP
import Derived.Test.YtbcipfajlhiabaaDigits
import Derived.Test.YtbcipfajlhiabaaOrder
import Derived.Test.YtbcipfajlhiabaaRoots
import Derived.Deep.RegionHeld3
namespace Go.Proofs.Ytbcipfajlhiabaa
open Go.RowKit
set_option linter.unusedVariables false

theorem idxOf_first : ∀ (o : List Nat) (p k : Nat), k < o.length → o.getD k 0 = p → (∀ j, j < k → o.getD j 0 ≠ p) → o.idxOf p = k := by
  intro o
  induction o with
  | nil => intro p k h; simp at h
  | cons a o ih =>
    intro p k hk he hn
    cases k with
    | zero =>
      have : a = p := by simpa [List.getD] using he
      subst this
      simp
    | succ k =>
      have ha : a ≠ p := by simpa [List.getD] using hn 0 (by omega)
      have h1 := ih p k (by simpa using hk) (by simpa [List.getD] using he) (fun j hj => by simpa [List.getD] using hn (j + 1) (by omega))
      rw [List.idxOf_cons]
      have : (a == p) = false := by simpa using ha
      rw [this, h1]
      rfl
theorem numOf_first {o : List Nat} {p k : Nat} (hk : k < o.length) (he : o.getD k 0 = p) (hn : ∀ j, j < k → o.getD j 0 ≠ p) : numOf o p = k := by
  have hm : p ∈ o := by rw [← he]; exact get_mem hk
  unfold numOf
  rw [if_pos hm, idxOf_first o p k hk he hn]

set_option maxHeartbeats 800000 in
set_option maxRecDepth 100000 in
theorem l18Word_any {B : Nat} (v : Value) (ps o : List Nat) (x : Int) (w : World) (hr : Rd B .i64 w v (nums o)) (hx : wordIn ps x = true) (hm : x % 2 = 0 → (x / 2).toNat ∈ o) (hol : o.length ≤ 6000) :
    Calls Try.prog 58 #[.int .i64 x, v] w fun e w' => e = .returned (.string (st (wordTxt o x))) ∧ Below w.heap.size w w' := by
  obtain ⟨a, c, hv⟩ := hr.form
  rw [nums_len] at hv
  subst hv
  by_cases hev : x % 2 = 0
  · obtain ⟨p, _, hpx⟩ := wordIn_ref hx hev
    have hpe : (x / 2).toNat = p := by omega
    have hmem := hm hev
    rw [hpe] at hmem
    have e1 : (x % 2 == 0) = true := by simp; omega
    have HX := Lib.hid hpx
    have HWT := Lib.hid (show wordTxt o x = [32, 64] ++ digL (numOf o p) by unfold wordTxt; rw [if_pos hev, hpe])
    have HR := Lib.hid (fun (W : World) => (by have := (sWordRef_any x W).mono (fun e w' h => And.intro h.1 h.2.symm); rw [← HX.out] at this; exact this : Calls Try.prog 68 #[.int .i64 x] W _))
    have HM := Lib.hid hmem
    have RK := Lib.hid (fun (W : World) (hs : Still w W) => hr.below (hs.below B) (Nat.le_refl _))
    clear hr hx hm hpx hpe hmem hev
    go_enter Try.func58, Try.ntmps58
    go_wp2_with (go_at_call 67; refine (sIsRef_any _ _).mono ?_; rintro e w' ⟨rfl, rfl⟩)
    go_loopw [5] (fun i wr => ∃ k : Nat, k ≤ o.length ∧ i = .int .i64 k ∧ Hid (∀ j, j < k → o.getD j 0 ≠ p) ∧ Still w wr) (fun i _ => o.length - (intOf i).toNat)
    case atStart => exact ⟨0, Nat.zero_le _, rfl, Lib.hid (fun j hj => absurd hj (by omega)), Still.refl _⟩
    case round =>
      obtain ⟨k, hk, rfl, hn, hs⟩ := hrel
      by_cases hlt : k < o.length
      · rcases RK.out _ hs with ⟨h', _⟩ | ⟨bl, off, c', hv, _, hbs, _, hc⟩
        · have := congrArg List.length h'; rw [nums_len, List.length_nil] at this; omega
        rw [nums_len] at hv
        cases hv
        have c0 := hc k (by rw [nums_len]; exact hlt)
        rw [nums_get] at c0
        obtain ⟨q, hq⟩ : ∃ q, o.getD k 0 = q := ⟨_, rfl⟩
        rw [hq] at c0
        have hki : (k : Int) < (o.length : Int) := by omega
        by_cases hqp : q = p
        · subst hqp
          have HN := Lib.hid (numOf_first hlt hq hn.out)
          have e2 : ((q : Int) == (q : Int)) = true := by simp
          have HD := Lib.hid (fun (W : World) => sDigits_any (k : Int) W (by omega) (by omega))
          have hds : (digs (k : Int)).size ≤ 21 := digs_size _
          have HDL := Lib.hid (show digs (k : Int) = st (digL (k : Int)) from rfl)
          obtain ⟨D, hD⟩ : ∃ D, digs (k : Int) = D := ⟨_, rfl⟩
          rw [hD] at hds HDL HD
          have hz1 : (⟨#[32, 64]⟩ : ByteArray).size + D.size ≤ 9223372036854775807 := by show 2 + D.size ≤ _; omega
          have HS := Lib.hid hs
          clear hs hc hq hn hD
          go_wp2_with fail
          go_quiet ((go_at_call 68; exact Calls.quiet_of_same (HR.out _)))
          have b1 := below_drewN (HS.out.below w.heap.size) nq
          go_wp2_with (go_at_call 59; refine (HD.out _).mono ?_; rintro e w5 ⟨rfl, b5⟩)
          have b2 := b1.trans (b5.mono b1.size)
          have B2 := Lib.hid b2
          clear b1 b5 b2
          go_ret
          exact ⟨by rw [HWT.out, HN.out, ← st_append, ← HDL.out]; rfl, B2.out⟩
        · have e2 : ((q : Int) == (p : Int)) = false := by simp; omega
          have HN := Lib.hid (show ∀ j, j < k + 1 → o.getD j 0 ≠ p from fun j hj => by
            by_cases e : j = k
            · subst e; rw [hq]; exact hqp
            · exact hn.out j (by omega))
          have HS := Lib.hid hs
          clear hs hc hq hn hqp
          go_wp2_with fail
          go_quiet ((go_at_call 68; exact Calls.quiet_of_same (HR.out _)))
          have hs' := HS.out.trans (⟨nq, rfl⟩ : Still wr _)
          go_wp2
          go_roundw
          case rel => exact ⟨k + 1, hlt, by go_num, HN, hs'⟩
          case measure => simp [intOf]; omega
      · exfalso
        obtain ⟨j, hj, he⟩ := List.mem_iff_getElem.1 HM.out
        exact hn.out j (by omega) (by rw [List.getD_eq_getElem?_getD, List.getElem?_eq_getElem hj]; exact he)
  · have e1 : (x % 2 == 0) = false := by simp; omega
    obtain ⟨b0, b1⟩ : -1073741824 ≤ x / 2 ∧ x / 2 ≤ 1073741823 := by rw [wordIn_odd hev] at hx; exact inB_true.1 hx
    have HWT := Lib.hid (show wordTxt o x = [32] ++ digL (x / 2) by unfold wordTxt; rw [if_neg hev])
    have HD := Lib.hid (fun (W : World) => sDigits_any (x / 2) W (by omega) (by omega))
    have hds : (digs (x / 2)).size ≤ 21 := digs_size _
    have HDL := Lib.hid (show digs (x / 2) = st (digL (x / 2)) from rfl)
    obtain ⟨D, hD⟩ : ∃ D, digs (x / 2) = D := ⟨_, rfl⟩
    rw [hD] at hds HDL HD
    have hz1 : (⟨#[32]⟩ : ByteArray).size + D.size ≤ 9223372036854775807 := by show 1 + D.size ≤ _; omega
    clear hr hx hm hev hD
    go_enter Try.func58, Try.ntmps58
    go_wp2_with (first | (go_at_call 67; refine (sIsRef_any _ _).mono ?_; rintro e w' ⟨rfl, rfl⟩) | (go_at_call 70; refine (sWordInt_any _ _).mono ?_; rintro e w' ⟨rfl, rfl⟩) | (go_at_call 59; refine (HD.out _).mono ?_; rintro e w5 ⟨rfl, b5⟩))
    go_ret
    exact ⟨by rw [HWT.out, ← st_append, ← HDL.out]; rfl, b5⟩

theorem hTag_in {X : Int} (h : hOk X = true) : 0 ≤ hTag X ∧ hTag X ≤ 3000 := by
  obtain ⟨h1, h2, h3, h4⟩ := hOk_true.1 h
  unfold hTag at h3 ⊢
  omega
theorem st_size_le {l : List UInt8} {m : Nat} (h : l.length ≤ m) : (st l).size ≤ m := by rw [st_size]; exact h

set_option maxHeartbeats 4000000 in
set_option maxRecDepth 100000 in
theorem sShape_any {B : Nat} (v vr : Value) (ws rs : List Int) (h b n : Int) (w : World) (hr : Rd B .i64 w v ws) (hw : intsOk ws) (hlen : ws.length ≤ 4294967296) (hq : Rd B .i64 w vr rs) (hrl : rs.length ≤ 4294967296)
    (bh : -9223372036854775808 ≤ h ∧ h ≤ 9223372036854775807) (ib : -9223372036854775808 ≤ b ∧ b ≤ 9223372036854775807) (bn : -9223372036854775808 ≤ n ∧ n ≤ 9223372036854775807) :
    Calls Try.prog 29 #[.agg #[v, .int .i64 h, .int .i64 b, .int .i64 n], vr] w fun e w' => e = .returned (.string (shapeOf ws h b n rs)) ∧ Below w.heap.size w w' := by
  have hO := fun (W : World) (hb : Below w.heap.size w W) => l18Right_any v vr ws rs h b n W (hr.below' hb) hw hlen (hq.below' hb) hrl bh ib bn
  cases hok : rightOf ws h b n rs
  · obtain ⟨a, cap, rfl⟩ := hr.form
    obtain ⟨qa, qc, rfl⟩ := hq.form
    rw [hok] at hO
    have HO := Lib.hid hO
    have HF := Lib.hid (shapeOf_not hok)
    clear hO hr hw bh ib bn hok hq
    go_enter Try.func29, Try.ntmps29
    go_wp2_with fail
    generalize hx : w.alloc _ = x
    obtain ⟨bb, k1⟩ := Bx.alloc hx
    clear hx
    refine (HO.out _ bb).mono ?_
    rintro e w1 ⟨rfl, b1⟩
    replace k1 := k1.below b1 k1.1
    replace bb := bb.trans (b1.mono bb.size)
    clear b1
    go_wp2
    go_ret
    exact ⟨by rw [HF.out]; rfl, bb⟩
  · rw [hok] at hO
    have HO := Lib.hid hO
    have HF0 := shapeOf_yes hok
    obtain ⟨h', b', n', ps, rfl, rfl, rfl, hR, hx⟩ := Right.ofR hok
    have hM := fun (W : World) (hb : Below w.heap.size w W) => l18Order_any v vr ws rs h' b' n' ps W hR (hr.below' hb) hw (hq.below' hb) hx hrl
    have hoO := order_ok hR hx
    have hol : (orderOf ws rs).length ≤ 6000 := Nat.le_trans (hR.ord_len hoO) hR.n_le.2
    have hcr := order_roots ws rs
    have hck := fun (p : Nat) (hp : p ∈ orderOf ws rs) => order_kids hR hx hp
    obtain ⟨o, ho⟩ : ∃ o, orderOf ws rs = o := ⟨_, rfl⟩
    rw [ho] at hM HF0 hoO hol hcr hck
    have hWd := fun (B : Nat) (u : Value) (x : Int) (W : World) (hr : Rd B .i64 W u (nums o)) (hx : wordIn ps x = true) (hm : x % 2 = 0 → (x / 2).toNat ∈ o) => l18Word_any u ps o x W hr hx hm hol
    have HM := Lib.hid hM
    have HF := Lib.hid HF0
    have HW := Lib.hid hWd
    have HR := Lib.hid hR
    have HX := Lib.hid hx
    have HOO := Lib.hid hoO
    have HCR := Lib.hid hcr
    have HCK := Lib.hid hck
    have HWO := Lib.hid hw
    have RW := Lib.hid (fun (W : World) (hb : Below w.heap.size w W) => hr.below' hb)
    have RQ := Lib.hid (fun (W : World) (hb : Below w.heap.size w W) => hq.below' hb)
    obtain ⟨hN1, hN2⟩ := hR.n_le
    obtain ⟨a, cap, rfl⟩ := hr.form
    obtain ⟨qa, qc, rfl⟩ := hq.form
    clear hO hr hw bh ib bn hok hq hM hoO ho hWd HF0 hR hx hcr hck
    go_enter Try.func29, Try.ntmps29
    go_wp2_with fail
    generalize hx : w.alloc _ = x
    obtain ⟨bb, k1⟩ := Bx.alloc hx
    clear hx
    refine (HO.out _ bb).mono ?_
    rintro e w1 ⟨rfl, b1⟩
    replace k1 := k1.below b1 k1.1
    replace bb := bb.trans (b1.mono bb.size)
    clear b1
    have ck1 := k1.2.1
    have yk1 := k1.1
    go_wp2_with fail
    refine (HM.out _ bb).mono ?_
    rintro e w2 ⟨ov, rfl, oo, b2⟩
    clear ck1 yk1
    replace k1 := k1.below b2 k1.1
    replace bb := bb.trans (b2.mono bb.size)
    clear b2
    obtain ⟨oa, oc, rfl⟩ := own_form oo
    have ro := Rd.of_nums oo
    have z2 : w2.heap.size ≤ w2.heap.size := Nat.le_refl _
    have K1 := Lib.hid k1
    have RO := Lib.hid ro
    have BB := Lib.hid bb
    clear oo k1 ro bb
    go_wp2
    go_loopw [6, 7] (fun t i wr => ∃ k : Nat, k ≤ rs.length ∧ i = .int .i64 k ∧ t = .string (st (wordsTxt o (rs.take k))) ∧ Bx wr w.heap.size #[.slice a ws.length cap, .int .i64 h', .int .i64 b', .int .i64 n'] ∧
      Rd w2.heap.size .i64 wr (.slice oa o.length oc) (nums o) ∧ w2.heap.size ≤ wr.heap.size ∧ Below w.heap.size w wr) (fun _ i _ => rs.length - (intOf i).toNat)
    case atStart => exact ⟨0, Nat.zero_le _, rfl, rfl, K1.out, RO.out, z2, BB.out⟩
    case round =>
      clear K1 RO BB z2
      obtain ⟨k, hk, rfl, rfl, k1, ro, z2, bb⟩ := hrel
      have hsl : (st (wordsTxt o (rs.take k))).size ≤ 98784247808 := st_size_le (by have h1 := wordsTxt_len o (rs.take k); have h2 := take_len_le rs k; omega)
      by_cases hlt : k < rs.length
      · rcases RQ.out _ bb with ⟨h', _⟩ | ⟨bl, off, c', hv, _, hbs, _, hc⟩
        · rw [h'] at hlt; simp at hlt
        cases hv
        have c0 := hc k hlt
        have hst : wordsTxt o (rs.take (k + 1)) = wordsTxt o (rs.take k) ++ wordTxt o (rs.getD k 0) := flatMap_take (wordTxt o) 0 rs k hlt
        have hx1 := all_get HX.out hlt
        have hm1 := HCR.out (rs.getD k 0) (by rw [List.getD_eq_getElem?_getD, List.getElem?_eq_getElem hlt]; exact List.getElem_mem hlt)
        obtain ⟨x, hxx⟩ : ∃ x, rs.getD k 0 = x := ⟨_, rfl⟩
        rw [hxx] at c0 hst hx1 hm1
        have HC := Lib.hid (HW.out _ _ x wr ro hx1 hm1)
        have hts : (st (wordTxt o x)).size ≤ 23 := st_size_le (wordTxt_len o x)
        obtain ⟨T, hT⟩ : ∃ T, st (wordTxt o x) = T := ⟨_, rfl⟩
        rw [hT] at HC hts
        obtain ⟨S, hS⟩ : ∃ S, st (wordsTxt o (rs.take k)) = S := ⟨_, rfl⟩
        rw [hS] at hsl ⊢
        have hz1 : S.size + T.size ≤ 9223372036854775807 := by omega
        have HST := Lib.hid hst
        have HS := Lib.hid hS
        have HT := Lib.hid hT
        clear hst hxx hc hx1 hm1 hS hT
        go_wp2_with fail
        refine HC.out.mono ?_
        rintro e w4 ⟨rfl, b4⟩
        replace ro := ro.below b4 z2
        have z4 := b4.size
        replace k1 := k1.below b4 k1.1
        replace bb := bb.trans (b4.mono bb.size)
        clear b4
        have K1 := Lib.hid k1
        have RO := Lib.hid ro
        have BB := Lib.hid bb
        clear k1 ro bb c0
        go_wp2
        go_roundw
        case rel => exact ⟨k + 1, hlt, by go_num, by rw [HST.out, ← st_append, HS.out, HT.out], K1.out, RO.out, by omega, BB.out⟩
        case measure => simp [intOf]; omega
      · obtain rfl : k = rs.length := by omega
        rw [List.take_of_length_le (Nat.le_refl _)] at hsl ⊢
        have hz1 : (st (wordsTxt o rs)).size + (⟨#[10]⟩ : ByteArray).size ≤ 9223372036854775807 := by show _ + 1 ≤ _; omega
        have HT0 := Lib.hid (show st (wordsTxt o rs) ++ (⟨#[10]⟩ : ByteArray) = st ((wordsTxt o rs ++ [10]) ++ (o.take 0).flatMap (blockTxt ws o)) by rw [← st_append]; simp [st_append]; rfl)
        have hT0 : (wordsTxt o rs ++ [10]).length ≤ 98784247809 := by have := wordsTxt_len o rs; simp; omega
        obtain ⟨T0, hT0e⟩ : ∃ T0, wordsTxt o rs ++ [10] = T0 := ⟨_, rfl⟩
        rw [hT0e] at hT0 HT0
        have HF2 := Lib.hid (show shapeOf ws h' b' n' rs = st (T0 ++ o.flatMap (blockTxt ws o)) by rw [HF.out, ← hT0e]; rfl)
        have K1 := Lib.hid k1
        have RO := Lib.hid ro
        have BB := Lib.hid bb
        clear k1 ro bb hT0e
        go_wp2
        go_loopw [6, 8] (fun t i wr => ∃ k : Nat, k ≤ o.length ∧ i = .int .i64 k ∧ t = .string (st (T0 ++ (o.take k).flatMap (blockTxt ws o))) ∧ Bx wr w.heap.size #[.slice a ws.length cap, .int .i64 h', .int .i64 b', .int .i64 n'] ∧
          Rd w2.heap.size .i64 wr (.slice oa o.length oc) (nums o) ∧ w2.heap.size ≤ wr.heap.size ∧ Below w.heap.size w wr) (fun _ i _ => o.length - (intOf i).toNat)
        case atStart => exact ⟨0, Nat.zero_le _, rfl, by rw [← HT0.out], K1.out, RO.out, z2, BB.out⟩
        case round =>
          clear K1 RO BB z2 hsl
          obtain ⟨i, hio, rfl, rfl, k1, ro, z2, bb⟩ := hrel
          have hsl : (st (T0 ++ (o.take i).flatMap (blockTxt ws o))).size ≤ 98793247809 := by
            rw [st_size, List.length_append]
            have h1 := flatMap_len (blockTxt_len ws o) (o.take i)
            have h2 := take_len_le o i
            omega
          by_cases hlt : i < o.length
          · have hpm := HOO.out.2 _ (get_mem hlt)
            have hpo : o.getD i 0 ∈ o := get_mem hlt
            have hst : T0 ++ (o.take (i + 1)).flatMap (blockTxt ws o) = (T0 ++ (o.take i).flatMap (blockTxt ws o)) ++ blockTxt ws o (o.getD i 0) := by rw [flatMap_take (blockTxt ws o) 0 o i hlt, List.append_assoc]
            rcases ro with ⟨h', _⟩ | ⟨obl, ooff, c', hv, hbg, hbs, hbm, hc⟩
            · have := congrArg List.length h'; rw [nums_len, List.length_nil] at this; omega
            have ro : Rd w2.heap.size .i64 wr (.slice oa o.length oc) (nums o) := .inr ⟨obl, ooff, c', hv, hbg, hbs, hbm, hc⟩
            have co := hc i (by rw [nums_len]; exact hlt)
            rw [nums_get] at co
            rw [nums_len] at hv
            cases hv
            obtain ⟨p, hpp⟩ : ∃ p, o.getD i 0 = p := ⟨_, rfl⟩
            rw [hpp] at hpm hpo co hst
            obtain ⟨_, hpn, hph, hpf, hpk⟩ := HR.out.at_ hpm
            have hcl := HCK.out p hpo
            have hxi := HWO.out p
            rcases RW.out _ bb with ⟨h', _⟩ | ⟨bl, off, c', hv, _, hbs2, _, hc2⟩
            · rw [h'] at hN1; simp at hN1; omega
            cases hv
            have c0 := hc2 p (by omega)
            obtain ⟨X, hXX⟩ : ∃ X, ws.getD p 0 = X := ⟨_, rfl⟩
            have HXX := Lib.hid hXX
            rw [hXX] at hph hpf hxi c0
            have hX0 := (hOk_true.1 hph).2.1
            have hkn := hK_cast X
            have hkb : hK X ≤ 20 := by have := (hOk_true.1 hph).2.2.2; omega
            have HH := Lib.hid (fun (W : World) => (l17Of_any X W hX0 hxi.2).mono (fun e w' hp => And.intro hp.1 hp.2.symm))
            rw [← hkn] at HH
            obtain ⟨t0, t1⟩ := hTag_in hph
            have hbt : blockTxt ws o p = kindTxt X ++ digL (hTag X) ++ (wordsTxt o (kidsAt ws p) ++ [10]) := by unfold blockTxt; rw [hXX]
            rw [hbt] at hst
            have HD := Lib.hid (fun (W : World) => sDigits_any (hTag X) W (by omega) (by omega))
            have hds : (digs (hTag X)).size ≤ 21 := digs_size _
            have HDL := Lib.hid (show digs (hTag X) = st (digL (hTag X)) from rfl)
            obtain ⟨D, hD⟩ : ∃ D, digs (hTag X) = D := ⟨_, rfl⟩
            rw [hD] at hds HDL HD
            obtain ⟨P0, hP0⟩ : ∃ P0, T0 ++ (o.take i).flatMap (blockTxt ws o) = P0 := ⟨_, rfl⟩
            rw [hP0] at hsl hst ⊢
            obtain ⟨S, hS⟩ : ∃ S, st P0 = S := ⟨_, rfl⟩
            rw [hS] at hsl ⊢
            have q1 := k1.2.1
            have hii : (i : Int) < (o.length : Int) := by omega
            have hpi : (p : Int) < (ws.length : Int) := by omega
            have HST := Lib.hid hst
            have HS := Lib.hid hS
            have HCL := Lib.hid hcl
            have K1 := Lib.hid k1
            have RO := Lib.hid ro
            have BB := Lib.hid bb
            have HPP := Lib.hid hpp
            clear hst hc hc2 hXX hkn hxi hbt hD hP0 hS hcl hpo hpp k1 ro bb
            have main : ∃ kt : List UInt8, kt.length = 3 ∧ kindTxt X = kt ++ [32] ∧ ((hFun X = true ∧ kt = [102, 117, 110]) ∨ (hFun X = false ∧ kt = [99, 111, 110])) := by
              cases hf : hFun X
              · exact ⟨_, rfl, by unfold kindTxt; rw [hf]; rfl, .inr ⟨rfl, rfl⟩⟩
              · exact ⟨_, rfl, by unfold kindTxt; rw [hf]; rfl, .inl ⟨rfl, rfl⟩⟩
            obtain ⟨kt, hktl, hkt, hff⟩ := main
            have HKT := Lib.hid hkt
            have hF1 : (((st P0 ++ st kt) ++ (⟨#[32]⟩ : ByteArray)) ++ D) = st (P0 ++ (kindTxt X ++ digL (hTag X)) ++ wordsTxt o ((kidsAt ws p).take 0)) := by
              have h1 : (⟨#[32]⟩ : ByteArray) = st [32] := rfl
              rw [h1, HDL.out, HKT.out, st_append, st_append, st_append]
              simp [wordsTxt]
            rw [HS.out] at hF1
            have HF1 := Lib.hid hF1
            have hP0l : P0.length ≤ 98793247809 := by have := HS.out; rw [← HS.out, st_size] at hsl; exact hsl
            clear hkt hF1
            have hzA1 : S.size + (⟨#[102, 117, 110]⟩ : ByteArray).size ≤ 9223372036854775807 := by show _ + 3 ≤ _; omega
            have hzA2 : (S ++ (⟨#[102, 117, 110]⟩ : ByteArray)).size + (⟨#[32]⟩ : ByteArray).size ≤ 9223372036854775807 := by rw [ByteArray.size_append]; show _ + 3 + 1 ≤ _; omega
            have hzA3 : (S ++ (⟨#[102, 117, 110]⟩ : ByteArray) ++ (⟨#[32]⟩ : ByteArray)).size + D.size ≤ 9223372036854775807 := by rw [ByteArray.size_append, ByteArray.size_append]; show _ + 3 + 1 + _ ≤ _; omega
            have hzB1 : S.size + (⟨#[99, 111, 110]⟩ : ByteArray).size ≤ 9223372036854775807 := by show _ + 3 ≤ _; omega
            have hzB2 : (S ++ (⟨#[99, 111, 110]⟩ : ByteArray)).size + (⟨#[32]⟩ : ByteArray).size ≤ 9223372036854775807 := by rw [ByteArray.size_append]; show _ + 3 + 1 ≤ _; omega
            have hzB3 : (S ++ (⟨#[99, 111, 110]⟩ : ByteArray) ++ (⟨#[32]⟩ : ByteArray)).size + D.size ≤ 9223372036854775807 := by rw [ByteArray.size_append, ByteArray.size_append]; show _ + 3 + 1 + _ ≤ _; omega
            have hP1l : (P0 ++ (kindTxt X ++ digL (hTag X))).length ≤ 98793247834 := by
              have h1 := digL_len (hTag X)
              have h2 := kindTxt_len X
              simp only [List.length_append]
              omega
            rcases hff with ⟨hf, rfl⟩ | ⟨hf, rfl⟩
            all_goals
              rw [hf] at HH
              clear hf hktl
              go_wp2_with fail
              go_quiet ((go_at_call 36; exact Calls.quiet_of_same (HH.out _)))
              have K2 := K1.out.below (below_drewN (Below.refl _ wr) nq) K1.out.1
              have R2 := RO.out.below (below_drewN (Below.refl _ wr) nq) z2
              have B2 := below_drewN BB.out nq
              have z3 : w2.heap.size ≤ (wr.drewN nq).heap.size := z2
              generalize hwd : wr.drewN nq = w3 at K2 R2 B2 z3
              clear hwd
              go_wp2_with fail
              refine (HD.out _).mono ?_
              rintro e w5 ⟨rfl, b5⟩
              have K5 := Lib.hid (K2.below b5 K2.1)
              have R5 := Lib.hid (R2.below b5 z3)
              have B5 := Lib.hid (B2.trans (b5.mono B2.size))
              have z5 : w2.heap.size ≤ w5.heap.size := Nat.le_trans z3 b5.size
              clear K2 R2 B2 b5 K1 RO BB co c0 q1 z2 z3 HH
              go_wp2
              go_loopw [6, 12] (fun t i wr => ∃ j : Nat, 1 ≤ j ∧ j ≤ hK X + 1 ∧ i = .int .i64 j ∧ t = .string (st (P0 ++ (kindTxt X ++ digL (hTag X)) ++ wordsTxt o ((kidsAt ws p).take (j - 1)))) ∧ Bx wr w.heap.size #[.slice (some ⟨bl, off, none⟩) ws.length cap, .int .i64 h', .int .i64 b', .int .i64 n'] ∧
                Rd w2.heap.size .i64 wr (.slice (some ⟨obl, ooff, none⟩) o.length oc) (nums o) ∧ w2.heap.size ≤ wr.heap.size ∧ Below w.heap.size w wr) (fun _ i _ => hK X + 1 - (intOf i).toNat)
              case atStart => exact ⟨1, Nat.le_refl _, by omega, rfl, by rw [← HF1.out]; rfl, K5.out, R5.out, z5, B5.out⟩
              case round =>
                clear K5 R5 B5 z5
                obtain ⟨j, hj1, hj2, rfl, rfl, k1, ro, z2, bb⟩ := hrel
                obtain ⟨P1, hP1⟩ : ∃ P1, P0 ++ (kindTxt X ++ digL (hTag X)) = P1 := ⟨_, rfl⟩
                have hP1l' := hP1l
                rw [hP1] at hP1l' ⊢
                have hkl2 := kidsAt_le ws p
                have hsl : (st (P1 ++ wordsTxt o ((kidsAt ws p).take (j - 1)))).size ≤ 98793250000 := by
                  rw [st_size, List.length_append]
                  have h1 := wordsTxt_len o ((kidsAt ws p).take (j - 1))
                  have h2 := take_len_le (kidsAt ws p) (j - 1)
                  omega
                by_cases hjk : j ≤ hK X
                · have hkl : (kidsAt ws p).length = hK X := by rw [kidsAt_len (by rw [HXX.out]; omega), HXX.out]
                  have hjl : j - 1 < (kidsAt ws p).length := by omega
                  have hy0 : (kidsAt ws p).getD (j - 1) 0 = ws.getD (p + j) 0 := by rw [kids_get (by rw [HXX.out]; omega), show p + (j - 1 + 1) = p + j by omega]
                  have hx1 := all_get hpk hjl
                  have hm1 := HCL.out ((kidsAt ws p).getD (j - 1) 0) (by rw [List.getD_eq_getElem?_getD, List.getElem?_eq_getElem hjl]; exact List.getElem_mem hjl)
                  have hst : wordsTxt o ((kidsAt ws p).take (j - 1 + 1)) = wordsTxt o ((kidsAt ws p).take (j - 1)) ++ wordTxt o ((kidsAt ws p).getD (j - 1) 0) := flatMap_take (wordTxt o) 0 _ _ hjl
                  rw [hy0, show j - 1 + 1 = j + 1 - 1 by omega] at hst
                  rw [hy0] at hx1 hm1
                  rcases ro with ⟨h', _⟩ | ⟨obl', ooff', c', hv, hbg', hbs', hbm', hc⟩
                  · have := congrArg List.length h'; rw [nums_len, List.length_nil] at this; omega
                  have ro : Rd w2.heap.size .i64 wr (.slice (some ⟨obl, ooff, none⟩) o.length oc) (nums o) := .inr ⟨obl', ooff', c', hv, hbg', hbs', hbm', hc⟩
                  have co := hc i (by rw [nums_len]; exact hlt)
                  rw [nums_get, HPP.out] at co
                  rw [nums_len] at hv
                  cases hv
                  rcases RW.out _ bb with ⟨h', _⟩ | ⟨bl', off', c', hv, _, hbs2', _, hc2⟩
                  · rw [h'] at hN1; simp at hN1; omega
                  cases hv
                  have c0 := hc2 (p + j) (by omega)
                  obtain ⟨x, hxx⟩ : ∃ x, ws.getD (p + j) 0 = x := ⟨_, rfl⟩
                  rw [hxx] at c0 hx1 hst hm1
                  have HC := Lib.hid (fun (B : Nat) (W : World) (r : Rd B .i64 W (.slice (some ⟨obl, ooff, none⟩) o.length oc) (nums o)) => HW.out B _ x W r hx1 hm1)
                  have hts : (st (wordTxt o x)).size ≤ 23 := st_size_le (wordTxt_len o x)
                  obtain ⟨T, hT⟩ : ∃ T, st (wordTxt o x) = T := ⟨_, rfl⟩
                  rw [hT] at HC hts
                  obtain ⟨S2, hS2⟩ : ∃ S2, st (P1 ++ wordsTxt o ((kidsAt ws p).take (j - 1))) = S2 := ⟨_, rfl⟩
                  rw [hS2] at hsl ⊢
                  have hz1 : S2.size + T.size ≤ 9223372036854775807 := by omega
                  have hadd := fun (W : World) => run_string_add_sum (P := Try.prog) W S2 T hz1
                  have q10 : wr.cell? ⟨w.heap.size, 0, none⟩ = some (.slice (some ⟨bl, off, none⟩) ws.length cap) := k1.2.1 0
                  have s1 : IntKind.i64.wrap ((p : Int) + (j : Int)) = (p : Int) + (j : Int) := IntWalk.i64_in _ (by omega)
                  have s2 : (0 : Int) ≤ (p : Int) + (j : Int) := by omega
                  have s3 : ((p : Int) + (j : Int)).toNat = p + j := by omega
                  have s4 : (p : Int) + (j : Int) < (ws.length : Int) := by omega
                  have l1 := k1.1
                  have HST := Lib.hid hst
                  have HS2 := Lib.hid hS2
                  have HT := Lib.hid hT
                  have HP1 := Lib.hid hP1
                  have K1 := Lib.hid k1
                  have RO := Lib.hid ro
                  have BB := Lib.hid bb
                  clear hst hxx hc hc2 hx1 hm1 hS2 hT hP1 hkl hjl hy0 k1 ro bb
                  go_wp2_with fail
                  go_region_held3 (fun w' => w'.cell? ⟨w.heap.size, 0, none⟩ = some (.slice (some ⟨bl, off, none⟩) ws.length cap) ∧ w'.cell? ⟨obl, ooff + i, none⟩ = some (.int .i64 p) ∧ w'.cell? ⟨bl, off + (p + j), none⟩ = some (.int .i64 x))
                    (first | (go_split_ands; refine ⟨?_, ?_, ?_⟩ <;> (refine (b9.cell (by simp only [World.size_drew]; omega)).trans ?_; with_reducible assumption)) | (go_keep; done)) (first | (go_at_call 58; refine (HC.out _ _ (by exact RO.out.below ((Below.refl _ _).drew) (Nat.le_refl _))).mono ?_; rintro e w9 ⟨hu, b9⟩; subst hu))
                  clear s1 s2 s3 s4 hadd
                  have b9' : Below wr.heap.size wr w9 := ((Below.refl _ _).drew).trans b9
                  have K9 := Lib.hid (K1.out.below b9' l1)
                  have R9 := Lib.hid (RO.out.below b9' z2)
                  have B9 := Lib.hid (BB.out.trans (b9'.mono BB.out.size))
                  have z9 : w2.heap.size ≤ w9.heap.size := Nat.le_trans z2 b9'.size
                  clear b9 b9' K1 RO BB q10 co c0 z2
                  go_wp2
                  go_roundw
                  case rel => exact ⟨j + 1, by omega, by omega, by go_num, by rw [HST.out, ← List.append_assoc, ← st_append, HS2.out, HT.out], K9.out, R9.out, z9, B9.out⟩
                  case measure => simp [intOf]; omega
                · have hkl : (kidsAt ws p).length = hK X := by rw [kidsAt_len (by rw [HXX.out]; omega), HXX.out]
                  rw [List.take_of_length_le (by omega)] at hsl ⊢
                  have hz1 : (st (P1 ++ wordsTxt o (kidsAt ws p))).size + (⟨#[10]⟩ : ByteArray).size ≤ 9223372036854775807 := by show _ + 1 ≤ _; omega
                  have HE := Lib.hid (show st (P1 ++ wordsTxt o (kidsAt ws p)) ++ (⟨#[10]⟩ : ByteArray) = st (T0 ++ (o.take (i + 1)).flatMap (blockTxt ws o)) by
                    have h1 : (⟨#[10]⟩ : ByteArray) = st [10] := rfl
                    rw [h1, st_append, HST.out, ← hP1]
                    simp)
                  have K1 := Lib.hid k1
                  have RO := Lib.hid ro
                  have BB := Lib.hid bb
                  clear hkl hP1 k1 ro bb
                  go_wp2
                  go_roundw
                  case rel => exact ⟨i + 1, by omega, by go_num, by rw [← HE.out], K1.out, RO.out, z2, BB.out⟩
                  case measure => simp [intOf]; omega
          · obtain rfl : i = o.length := by omega
            rw [List.take_of_length_le (Nat.le_refl _)] at hsl ⊢
            have BB := Lib.hid bb
            clear bb k1 ro
            go_wp2
            go_ret
            exact ⟨by rw [HF2.out]; rfl, BB.out⟩

end Go.Proofs.Ytbcipfajlhiabaa
