import Derived.Test.YtmcoidnonmmpjaaShapeP
import Derived.Test.YtmcoidnonmmpjaaDigits
import Derived.Test.YtmcoidnonmmpjaaMet
import Derived.Test.YtmcoidnonmmpjaaRoots
import Derived.Test.YtmcoidnonmmpjaaOrder
import Derived.Deep.RegionHeld3
import Derived.Test.YtmcoidnonmmpjaaInsP
import Derived.Test.YtmcoidnonmmpjaaSortLay
import Derived.Sort.OwnSortedInts
/- Shape of the program. -/
namespace Go.Proofs.Ytmcoidnonmmpjaa
open Go.RowKit
set_option linter.unusedVariables false

theorem numOf_bd {o : List Nat} (p : Nat) (h : o.length ≤ 6000) : -1 ≤ numOf o p ∧ numOf o p ≤ 6000 := by
  by_cases hp : p ∈ o
  · have := numOf_in hp; omega
  · rw [numOf_out hp]; omega
theorem wordIn_bd {ps : List Nat} {x : Int} (h : wordIn ps x = true) (ho : ¬ x % 2 = 0) : -1073741824 ≤ x / 2 ∧ x / 2 ≤ 1073741823 := by
  rw [wordIn_odd ho] at h
  exact inB_true.1 h

set_option maxHeartbeats 800000 in
set_option maxRecDepth 100000 in
theorem text_any {B B2 gn N : Nat} (nv v : Value) (ps o : List Nat) (xs : List Int) (w : World) (hn : Rd B .i64 w nv (numbers o N)) (hg : w.cell? ⟨gn, 0, none⟩ = some nv) (hr : Rd B2 .i64 w v xs)
    (hx : xs.all (wordIn ps) = true) (hp : ∀ p ∈ ps, p < N) (hol : o.length ≤ 6000) (hxl : xs.length ≤ 4294967296) :
    Calls Try.prog 64 #[v, .pointer (some ⟨gn, 0, none⟩)] w fun e w' => e = .returned (.string (st (wordsTxt o xs ++ [10]))) ∧ Still w w' := by
  obtain ⟨a, c, rfl⟩ := hr.form
  obtain ⟨na, nc, hnv⟩ := hn.form
  rw [numbers_len] at hnv
  subst hnv
  have RK := Lib.hid (fun (W : World) (hs : Still w W) => hr.below (hs.below B2) (Nat.le_refl _))
  have RN := Lib.hid (fun (W : World) (hs : Still w W) => hn.below (hs.below B) (Nat.le_refl _))
  have RG := Lib.hid (fun (W : World) (hs : Still w W) => ((hs.below (gn + 1)).cell (p := ⟨gn, 0, none⟩) (by dsimp only; omega)).trans hg)
  clear hr hn hg
  go_enter Try.func64, Try.ntmps64
  go_wp2
  go_loopw [4, 9] (fun t i wr => ∃ k : Nat, k ≤ xs.length ∧ i = .int .i64 k ∧ t = .string (st (wordsTxt o (xs.take k))) ∧ Still w wr) (fun _ i _ => xs.length - (intOf i).toNat)
  case atStart => exact ⟨0, Nat.zero_le _, rfl, rfl, Still.refl _⟩
  case round =>
    obtain ⟨k, hk, rfl, rfl, hs⟩ := hrel
    have hsl : (st (wordsTxt o (xs.take k))).size ≤ 98784247808 := by
      rw [st_size]
      have h1 := wordsTxt_len o (xs.take k)
      have h2 := take_len_le xs k
      omega
    by_cases hlt : k < xs.length
    · rcases RK.out _ hs with ⟨h', _⟩ | ⟨bl, off, c', hv, _, hbs, _, hc⟩
      · rw [h'] at hlt; simp at hlt
      cases hv
      have c0 := hc k hlt
      have hx1 := all_get hx hlt
      have hst : wordsTxt o (xs.take (k + 1)) = wordsTxt o (xs.take k) ++ wordTxt o (xs.getD k 0) := flatMap_take (wordTxt o) 0 xs k hlt
      obtain ⟨x, hxx⟩ : ∃ x, xs.getD k 0 = x := ⟨_, rfl⟩
      rw [hxx] at c0 hx1 hst
      obtain ⟨S, hSS⟩ : ∃ S, st (wordsTxt o (xs.take k)) = S := ⟨_, rfl⟩
      rw [hSS] at hsl ⊢
      have HST := Lib.hid hst
      have HSS := Lib.hid hSS
      have HS := Lib.hid hs
      clear hst hxx hc hSS
      by_cases hev : x % 2 = 0
      · obtain ⟨p, hpp, hpx⟩ := wordIn_ref hx1 hev
        have hpN := hp p hpp
        have hpe : (x / 2).toNat = p := by omega
        have HX := Lib.hid hpx
        have e1 : (x % 2 == 0) = true := by simp; omega
        rcases RN.out _ hs with ⟨h', _⟩ | ⟨bn, offn, cn', hvn, _, _, _, hcn⟩
        · have := congrArg List.length h'; rw [numbers_len] at this; simp at this; omega
        rw [numbers_len] at hvn
        cases hvn
        have c1 := hcn p (by rw [numbers_len]; exact hpN)
        rw [numbers_get hpN] at c1
        have q1 := RG.out _ hs
        obtain ⟨hm0, hm1⟩ := numOf_bd p hol
        have HWT := Lib.hid (show wordTxt o x = [32, 64] ++ digL (numOf o p) by unfold wordTxt; rw [if_pos hev, hpe])
        obtain ⟨m, hm⟩ : ∃ m, numOf o p = m := ⟨_, rfl⟩
        rw [hm] at c1 hm0 hm1 HWT
        have HD := Lib.hid (fun (W : World) => (iDigits_any m W (by omega) (by omega)).mono (fun e w' h => And.intro h.1 h.2.symm))
        have HR := Lib.hid (fun (W : World) => (by have := (iWordRef_any x W).mono (fun e w' h => And.intro h.1 h.2.symm); rw [← HX.out] at this; exact this : Calls Try.prog 67 #[.int .i64 x] W _))
        have hds : (digs m).size ≤ 21 := digs_size m
        have HDL := Lib.hid (show digs m = st (digL m) from rfl)
        obtain ⟨D, hD⟩ : ∃ D, digs m = D := ⟨_, rfl⟩
        rw [hD] at hds HDL HD
        have hz1 : (⟨#[32, 64]⟩ : ByteArray).size + D.size ≤ 9223372036854775807 := by show 2 + D.size ≤ _; omega
        have hz2 : S.size + ((⟨#[32, 64]⟩ : ByteArray) ++ D).size ≤ 9223372036854775807 := by rw [ByteArray.size_append]; show _ + (2 + D.size) ≤ _; omega
        have hpi : (p : Int) < (N : Int) := by omega
        clear hs hcn hpx hpe hm hev hx1 hD
        go_wp2_with (go_at_call 65; refine (iIsRef_any _ _).mono ?_; rintro e w' ⟨rfl, rfl⟩)
        go_quiet (first | (go_at_call 67; exact Calls.quiet_of_same (HR.out _)) | (go_at_call 66; exact Calls.quiet_of_same (HD.out _)))
        have hs' := HS.out.trans (⟨nq, rfl⟩ : Still wr _)
        go_wp2
        go_roundw
        case rel => exact ⟨k + 1, hlt, by go_num, by rw [HST.out, ← st_append, HSS.out, HWT.out, ← st_append, HDL.out]; rfl, hs'⟩
        case measure => simp [intOf]; omega
      · have e1 : (x % 2 == 0) = false := by simp; omega
        obtain ⟨b0, b1⟩ := wordIn_bd hx1 hev
        have HWT := Lib.hid (show wordTxt o x = [32] ++ digL (x / 2) by unfold wordTxt; rw [if_neg hev])
        have HD := Lib.hid (fun (W : World) => iDigits_any (x / 2) W (by omega) (by omega))
        have hds : (digs (x / 2)).size ≤ 21 := digs_size _
        have HDL := Lib.hid (show digs (x / 2) = st (digL (x / 2)) from rfl)
        obtain ⟨D, hD⟩ : ∃ D, digs (x / 2) = D := ⟨_, rfl⟩
        rw [hD] at hds HDL HD
        have hz1 : (⟨#[32]⟩ : ByteArray).size + D.size ≤ 9223372036854775807 := by show 1 + D.size ≤ _; omega
        have hz2 : S.size + ((⟨#[32]⟩ : ByteArray) ++ D).size ≤ 9223372036854775807 := by rw [ByteArray.size_append]; show _ + (1 + D.size) ≤ _; omega
        clear hs hev hx1 hD
        go_wp2_with (first | (go_at_call 65; refine (iIsRef_any _ _).mono ?_; rintro e w' ⟨rfl, rfl⟩) | (go_at_call 68; refine (iWordInt_any _ _).mono ?_; rintro e w' ⟨rfl, rfl⟩) | (go_at_call 66; refine (HD.out _).mono ?_; rintro e w' ⟨rfl, rfl⟩))
        go_roundw
        case rel => exact ⟨k + 1, hlt, by go_num, by rw [HST.out, ← st_append, HSS.out, HWT.out, ← st_append, HDL.out]; rfl, HS.out⟩
        case measure => simp [intOf]; omega
    · obtain rfl : k = xs.length := by omega
      rw [List.take_of_length_le (Nat.le_refl _)] at hsl ⊢
      have HS := Lib.hid hs
      have hz1 : (st (wordsTxt o xs)).size + (⟨#[10]⟩ : ByteArray).size ≤ 9223372036854775807 := by show _ + 1 ≤ _; omega
      clear hs
      go_wp2
      go_ret
      exact ⟨by rw [← st_append]; rfl, HS.out⟩

theorem orderRd {base : Nat} {w : World} {a : Option Addr} {c : Nat} {S : List Nat} (h : w.ownsRow base 3 1 (.slice a S.length c) S.length (S.map ofN)) : Rd w.heap.size .i64 w (.slice a S.length c) (nums S) := by
  rw [map_ofN] at h
  have h2 : w.ownsRow base 3 1 (.slice a S.length c) (nums S).length ((nums S).map (Value.int .i64)) := by rw [nums_len]; exact h
  exact Rd.of_own h2
theorem hTag_bd {X : Int} (h : hOk X = true) : 0 ≤ hTag X ∧ hTag X ≤ 3000 := by
  obtain ⟨h1, h2, h3, h4⟩ := hOk_true.1 h
  unfold hTag at h3 ⊢
  omega

set_option maxHeartbeats 1600000 in
set_option maxRecDepth 100000 in
theorem iShape_any {B : Nat} (v vr : Value) (ws rs : List Int) (h b n : Int) (w : World) (hr : Rd B .i64 w v ws) (hw : intsOk ws) (hlen : ws.length ≤ 4294967296) (hq : Rd B .i64 w vr rs) (hrl : rs.length ≤ 4294967296)
    (bh : -9223372036854775808 ≤ h ∧ h ≤ 9223372036854775807) (ib : -9223372036854775808 ≤ b ∧ b ≤ 9223372036854775807) (bn : -9223372036854775808 ≤ n ∧ n ≤ 9223372036854775807) :
    Calls Try.prog 29 #[.agg #[v, .int .i64 h, .int .i64 b, .int .i64 n], vr] w fun e w' => e = .returned (.string (shapeOf ws h b n rs)) ∧ Below w.heap.size w w' := by
  have hO := fun (W : World) (hb : Below w.heap.size w W) => iRootsOk_any v vr ws rs h b n W (hr.below' hb) hw hlen (hq.below' hb) bh ib bn
  cases hok : rightOf ws h b n rs
  · obtain ⟨a, cap, rfl⟩ := hr.form
    obtain ⟨qa, qc, rfl⟩ := hq.form
    rw [hok] at hO
    have HO := Lib.hid hO
    have HF := Lib.hid (shapeOf_not hok)
    clear hO hr hw bh ib bn hok hq
    go_enter Try.func29, Try.ntmps29
    go_wp2_with fail
    generalize hx : w.alloc _ = x
    obtain ⟨bb, k1⟩ := Bx.alloc hx
    clear hx
    refine (HO.out _ bb).mono ?_
    rintro e w1 ⟨rfl, b1⟩
    replace k1 := k1.below b1 k1.1
    replace bb := bb.trans (b1.mono bb.size)
    clear b1
    go_wp2
    go_ret
    exact ⟨by rw [HF.out]; rfl, bb⟩
  · rw [hok] at hO
    have HO := Lib.hid hO
    have HF0 := shapeOf_yes hok
    obtain ⟨h', b', n', ps, rfl, rfl, rfl, hR, hx⟩ := Right.ofR hok
    have hM := fun (W : World) (hb : Below w.heap.size w W) => met_any v vr ws rs h' b' n' ps W hR (hr.below' hb) hw (hq.below' hb) hx hrl
    have hoO := order_ok hR hx
    have hol : (orderOf ws rs).length ≤ 6000 := Nat.le_trans (hR.ord_len hoO) hR.n_le.2
    obtain ⟨o, ho⟩ : ∃ o, orderOf ws rs = o := ⟨_, rfl⟩
    rw [ho] at hM HF0 hoO hol
    have hB := fun (B : Nat) (W : World) (p : Nat) (hp : p ∈ ps) (hr : Rd B .i64 W v ws) => blockAt_any v ws h' b' n' p W hr hw (hR.at_ hp).2.2.1 (Nat.le_trans (hR.at_ hp).2.2.2.1 hR.n_le.1) hlen
    have hpN : ∀ p ∈ ps, p < ws.length := fun p hp => Nat.lt_of_lt_of_le (hR.at_ hp).2.1 hR.n_le.1
    have hT := fun (B B2 gn : Nat) (nv u : Value) (xs : List Int) (W : World) (hn : Rd B .i64 W nv (numbers o ws.length)) (hg : W.cell? ⟨gn, 0, none⟩ = some nv) (hr : Rd B2 .i64 W u xs) (hx : xs.all (wordIn ps) = true) (hxl : xs.length ≤ 4294967296) =>
      text_any nv u ps o xs W hn hg hr hx hpN hol hxl
    have HM := Lib.hid hM
    have HF := Lib.hid HF0
    have HB := Lib.hid hB
    have HT := Lib.hid hT
    have HR := Lib.hid hR
    have HX := Lib.hid hx
    have HOO := Lib.hid hoO
    have RW := Lib.hid (fun (W : World) (hb : Below w.heap.size w W) => hr.below' hb)
    have RQ := Lib.hid (fun (W : World) (hb : Below w.heap.size w W) => hq.below' hb)
    have hwl := hR.n_le.2
    obtain ⟨a, cap, rfl⟩ := hr.form
    obtain ⟨qa, qc, rfl⟩ := hq.form
    clear hO hr hw bh ib bn hok hq hM hoO ho hB hpN hT HF0 hR hx
    go_enter Try.func29, Try.ntmps29
    go_wp2_with fail
    generalize hx : w.alloc _ = x
    obtain ⟨bb, k1⟩ := Bx.alloc hx
    clear hx
    refine (HO.out _ bb).mono ?_
    rintro e w1 ⟨rfl, b1⟩
    replace k1 := k1.below b1 k1.1
    replace bb := bb.trans (b1.mono bb.size)
    clear b1
    have ck1 := k1.2.1
    have yk1 := k1.1
    go_wp2_with fail
    refine (HM.out _ bb).mono ?_
    rintro e w2 ⟨ov, nv, rfl, oo, rn, b2⟩
    clear ck1 yk1
    replace k1 := k1.below b2 k1.1
    replace bb := bb.trans (b2.mono bb.size)
    clear b2
    obtain ⟨oa, oc, rfl⟩ := own_form oo
    have ro := orderRd oo
    clear oo
    obtain ⟨na, nc, hnf⟩ := rn.form
    rw [numbers_len] at hnf
    subst hnf
    go_wp2_with fail
    generalize hx : w2.alloc _ = x3
    obtain ⟨b3, k3⟩ := Bx.alloc hx
    clear hx
    replace ro := ro.below b3 (Nat.le_refl _)
    replace rn := rn.below b3 (Nat.le_refl _)
    replace k1 := k1.below b3 k1.1
    replace bb := bb.trans (b3.mono bb.size)
    clear b3
    have z3 := k3.1
    refine (HT.out _ _ _ _ _ _ _ rn (k3.2.1 0) (RQ.out _ bb) HX.out hrl).mono ?_
    rintro e w4 ⟨rfl, s4⟩
    have b4 := s4.below x3.heap.size
    clear s4
    replace ro := ro.below b4 (Nat.le_of_lt z3)
    replace rn := rn.below b4 (Nat.le_of_lt z3)
    replace k1 := k1.below b4 k1.1
    replace k3 := k3.below b4 k3.1
    replace bb := bb.trans (b4.mono bb.size)
    clear b4
    have z4 := k3.1
    obtain ⟨gn, hgn⟩ : ∃ gn, w2.heap.size = gn := ⟨_, rfl⟩
    rw [hgn] at k3 z3 z4 ro rn ⊢
    have HGN := Lib.hid hgn
    have K1 := Lib.hid k1
    have K3 := Lib.hid k3
    have RO := Lib.hid ro
    have RN := Lib.hid rn
    have BB := Lib.hid bb
    have hT0 : (wordsTxt o rs ++ [10]).length ≤ 98784247809 := by have := wordsTxt_len o rs; simp; omega
    obtain ⟨T0, hT0e⟩ : ∃ T0, wordsTxt o rs ++ [10] = T0 := ⟨_, rfl⟩
    rw [hT0e] at hT0 ⊢
    have HF2 := Lib.hid (show shapeOf ws h' b' n' rs = st (T0 ++ o.flatMap (blockTxt ws o)) by rw [HF.out, ← hT0e]; rfl)
    clear hgn k1 k3 ro rn bb hT0e
    go_wp2
    go_loopw [8, 31] (fun t i wr => ∃ k : Nat, k ≤ o.length ∧ i = .int .i64 k ∧ t = .string (st (T0 ++ (o.take k).flatMap (blockTxt ws o))) ∧ Bx wr w.heap.size #[.slice a ws.length cap, .int .i64 h', .int .i64 b', .int .i64 n'] ∧
      Bx wr gn #[.slice na ws.length nc] ∧ Rd gn .i64 wr (.slice oa o.length oc) (nums o) ∧ Rd gn .i64 wr (.slice na ws.length nc) (numbers o ws.length) ∧ Below w.heap.size w wr) (fun _ i _ => o.length - (intOf i).toNat)
    case atStart => exact ⟨0, Nat.zero_le _, rfl, by simp, K1.out, K3.out, RO.out, RN.out, BB.out⟩
    case round =>
      clear K1 K3 RO RN BB
      obtain ⟨k, hk, rfl, rfl, k1, k3, ro, rn, bb⟩ := hrel
      have hsl : (st (T0 ++ (o.take k).flatMap (blockTxt ws o))).size ≤ 98793247809 := by
        rw [st_size, List.length_append]
        have h1 := flatMap_len (blockTxt_len ws o) (o.take k)
        have h2 := take_len_le o k
        omega
      by_cases hlt : k < o.length
      · have hpm := HOO.out.2 _ (get_mem hlt)
        have hst : T0 ++ (o.take (k + 1)).flatMap (blockTxt ws o) = (T0 ++ (o.take k).flatMap (blockTxt ws o)) ++ blockTxt ws o (o.getD k 0) := by rw [flatMap_take (blockTxt ws o) 0 o k hlt, List.append_assoc]
        rcases ro with ⟨h', _⟩ | ⟨bl, off, c', hv, hbg, hbs, hbm, hc⟩
        · have := congrArg List.length h'; rw [nums_len, List.length_nil] at this; omega
        have ro : Rd gn .i64 wr (.slice oa o.length oc) (nums o) := .inr ⟨bl, off, c', hv, hbg, hbs, hbm, hc⟩
        have c0 := hc k (by rw [nums_len]; exact hlt)
        rw [nums_get] at c0
        rw [nums_len] at hv
        cases hv
        obtain ⟨p, hpp⟩ : ∃ p, o.getD k 0 = p := ⟨_, rfl⟩
        rw [hpp] at hpm c0 hst
        have hat := HR.out.at_ hpm
        have hBp := HB.out _ wr p hpm (RW.out _ bb)
        obtain ⟨X, hXX⟩ : ∃ X, ws.getD p 0 = X := ⟨_, rfl⟩
        rw [hXX] at hBp
        have hbt : blockTxt ws o p = kindTxt X ++ digL (hTag X) ++ (wordsTxt o (kidsAt ws p) ++ [10]) := by unfold blockTxt; rw [hXX]
        rw [hbt] at hst
        obtain ⟨t0, t1⟩ := hTag_bd (X := X) (by rw [← hXX]; exact hat.2.2.1)
        have hka := hat.2.2.2.2
        have hkl := kidsAt_le ws p
        have hK1 := wordsTxt_len o (kidsAt ws p)
        have HD := Lib.hid (fun (W : World) => iDigits_any (hTag X) W (by omega) (by omega))
        have hds : (digs (hTag X)).size ≤ 21 := digs_size _
        have HDL := Lib.hid (show digs (hTag X) = st (digL (hTag X)) from rfl)
        obtain ⟨D, hD⟩ : ∃ D, digs (hTag X) = D := ⟨_, rfl⟩
        rw [hD] at hds HDL HD
        have hts : (st (wordsTxt o (kidsAt ws p) ++ [10])).size ≤ 1473 := by rw [st_size]; simp; omega
        obtain ⟨T, hT⟩ : ∃ T, st (wordsTxt o (kidsAt ws p) ++ [10]) = T := ⟨_, rfl⟩
        have HTp := fun (B B2 : Nat) (nv u : Value) (W : World) (hn : Rd B .i64 W nv (numbers o ws.length)) (hg : W.cell? ⟨gn, 0, none⟩ = some nv) (hr : Rd B2 .i64 W u (kidsAt ws p)) => HT.out B B2 gn nv u (kidsAt ws p) W hn hg hr hka (by omega)
        rw [hT] at hts HTp
        obtain ⟨S, hS⟩ : ∃ S, st (T0 ++ (o.take k).flatMap (blockTxt ws o)) = S := ⟨_, rfl⟩
        rw [hS] at hsl ⊢
        have HST := Lib.hid hst
        have HS := Lib.hid hS
        have HT2 := Lib.hid hT
        have HTP := Lib.hid HTp
        have hki : (k : Int) < (o.length : Int) := by omega
        cases hf : hFun X
        all_goals
          have HK := Lib.hid (show kindTxt X = _ by unfold kindTxt; rw [hf])
          rw [hf] at hBp
          have HBP := Lib.hid hBp
          clear hst hc hpp hXX hbt hat hD hT hS hBp HTp hf
          have ck1 := k1.2.1
          have yk1 := k1.1
          go_wp2_with fail
          clear ck1 yk1
          refine HBP.out.mono ?_
          rintro e w5 ⟨u, rfl, ru, b5⟩
          obtain ⟨ua, uc, rfl⟩ := ru.form
          have zg := k3.1
          replace ro := ro.below b5 (Nat.le_of_lt zg)
          replace rn := rn.below b5 (Nat.le_of_lt zg)
          replace k1 := k1.below b5 k1.1
          replace k3 := k3.below b5 k3.1
          replace bb := bb.trans (b5.mono bb.size)
          clear b5
          clear c0
          go_wp2_with fail
          refine (HD.out _).mono ?_
          rintro e w6 ⟨rfl, rfl⟩
          go_wp2_with fail
          refine (HTP.out _ _ _ _ _ rn (k3.2.1 0) ru).mono ?_
          rintro e w7 ⟨rfl, s7⟩
          have b7 := s7.below w5.heap.size
          clear s7 ru
          have zg := k3.1
          replace ro := ro.below b7 (Nat.le_of_lt zg)
          replace rn := rn.below b7 (Nat.le_of_lt zg)
          replace k1 := k1.below b7 k1.1
          replace k3 := k3.below b7 k3.1
          replace bb := bb.trans (b7.mono bb.size)
          clear b7
        · have K1 := Lib.hid k1
          have K3 := Lib.hid k3
          have RO := Lib.hid ro
          have RN := Lib.hid rn
          have BB := Lib.hid bb
          have hz1 : (⟨#[99, 111, 110, 32]⟩ : ByteArray).size + D.size ≤ 9223372036854775807 := by show 4 + D.size ≤ _; omega
          have hz2 : ((⟨#[99, 111, 110, 32]⟩ : ByteArray) ++ D).size + T.size ≤ 9223372036854775807 := by rw [ByteArray.size_append]; show 4 + D.size + T.size ≤ _; omega
          have hz3 : S.size + ((⟨#[99, 111, 110, 32]⟩ : ByteArray) ++ D ++ T).size ≤ 9223372036854775807 := by rw [ByteArray.size_append, ByteArray.size_append]; show _ + (4 + D.size + T.size) ≤ _; omega
          clear k1 k3 ro rn bb
          go_wp2
          go_roundw
          case rel => exact ⟨k + 1, hlt, by go_num, by rw [HST.out, ← st_append, HS.out, ← st_append, HT2.out, ← st_append, ← HDL.out, HK.out]; rfl, K1.out, K3.out, RO.out, RN.out, BB.out⟩
          case measure => simp [intOf]; omega
        · have K1 := Lib.hid k1
          have K3 := Lib.hid k3
          have RO := Lib.hid ro
          have RN := Lib.hid rn
          have BB := Lib.hid bb
          have hz1 : (⟨#[102, 117, 110, 32]⟩ : ByteArray).size + D.size ≤ 9223372036854775807 := by show 4 + D.size ≤ _; omega
          have hz2 : ((⟨#[102, 117, 110, 32]⟩ : ByteArray) ++ D).size + T.size ≤ 9223372036854775807 := by rw [ByteArray.size_append]; show 4 + D.size + T.size ≤ _; omega
          have hz3 : S.size + ((⟨#[102, 117, 110, 32]⟩ : ByteArray) ++ D ++ T).size ≤ 9223372036854775807 := by rw [ByteArray.size_append, ByteArray.size_append]; show _ + (4 + D.size + T.size) ≤ _; omega
          clear k1 k3 ro rn bb
          go_wp2
          go_roundw
          case rel => exact ⟨k + 1, hlt, by go_num, by rw [HST.out, ← st_append, HS.out, ← st_append, HT2.out, ← st_append, ← HDL.out, HK.out]; rfl, K1.out, K3.out, RO.out, RN.out, BB.out⟩
          case measure => simp [intOf]; omega
      · obtain rfl : k = o.length := by omega
        rw [List.take_of_length_le (Nat.le_refl _)] at hsl ⊢
        have BB := Lib.hid bb
        clear bb k1 k3 ro rn
        go_wp2
        go_ret
        exact ⟨by rw [HF2.out]; rfl, BB.out⟩

end Go.Proofs.Ytmcoidnonmmpjaa

/- Shape of the reference. -/
namespace Go.Proofs.Ytmcoidnonmmpjaa
open Go.RowKit
set_option linter.unusedVariables false

theorem idxOf_first : ∀ (o : List Nat) (p k : Nat), k < o.length → o.getD k 0 = p → (∀ j, j < k → o.getD j 0 ≠ p) → o.idxOf p = k := by
  intro o
  induction o with
  | nil => intro p k h; simp at h
  | cons a o ih =>
    intro p k hk he hn
    cases k with
    | zero =>
      have : a = p := by simpa [List.getD] using he
      subst this
      simp
    | succ k =>
      have ha : a ≠ p := by simpa [List.getD] using hn 0 (by omega)
      have h1 := ih p k (by simpa using hk) (by simpa [List.getD] using he) (fun j hj => by simpa [List.getD] using hn (j + 1) (by omega))
      rw [List.idxOf_cons]
      have : (a == p) = false := by simpa using ha
      rw [this, h1]
      rfl
theorem numOf_first {o : List Nat} {p k : Nat} (hk : k < o.length) (he : o.getD k 0 = p) (hn : ∀ j, j < k → o.getD j 0 ≠ p) : numOf o p = k := by
  have hm : p ∈ o := by rw [← he]; exact get_mem hk
  unfold numOf
  rw [if_pos hm, idxOf_first o p k hk he hn]

set_option maxHeartbeats 800000 in
set_option maxRecDepth 100000 in
theorem l18Word_any {B : Nat} (v : Value) (ps o : List Nat) (x : Int) (w : World) (hr : Rd B .i64 w v (nums o)) (hx : wordIn ps x = true) (hm : x % 2 = 0 → (x / 2).toNat ∈ o) (hol : o.length ≤ 6000) :
    Calls Try.prog 69 #[.int .i64 x, v] w fun e w' => e = .returned (.string (st (wordTxt o x))) ∧ Below w.heap.size w w' := by
  obtain ⟨a, c, hv⟩ := hr.form
  rw [nums_len] at hv
  subst hv
  by_cases hev : x % 2 = 0
  · obtain ⟨p, _, hpx⟩ := wordIn_ref hx hev
    have hpe : (x / 2).toNat = p := by omega
    have hmem := hm hev
    rw [hpe] at hmem
    have e1 : (x % 2 == 0) = true := by simp; omega
    have HX := Lib.hid hpx
    have HWT := Lib.hid (show wordTxt o x = [32, 64] ++ digL (numOf o p) by unfold wordTxt; rw [if_pos hev, hpe])
    have HR := Lib.hid (fun (W : World) => (by have := (sWordRef_any x W).mono (fun e w' h => And.intro h.1 h.2.symm); rw [← HX.out] at this; exact this : Calls Try.prog 50 #[.int .i64 x] W _))
    have HM := Lib.hid hmem
    have RK := Lib.hid (fun (W : World) (hs : Still w W) => hr.below (hs.below B) (Nat.le_refl _))
    clear hr hx hm hpx hpe hmem hev
    go_enter Try.func69, Try.ntmps69
    go_wp2_with (go_at_call 78; refine (sIsRef_any _ _).mono ?_; rintro e w' ⟨rfl, rfl⟩)
    go_loopw [5] (fun i wr => ∃ k : Nat, k ≤ o.length ∧ i = .int .i64 k ∧ Hid (∀ j, j < k → o.getD j 0 ≠ p) ∧ Still w wr) (fun i _ => o.length - (intOf i).toNat)
    case atStart => exact ⟨0, Nat.zero_le _, rfl, Lib.hid (fun j hj => absurd hj (by omega)), Still.refl _⟩
    case round =>
      obtain ⟨k, hk, rfl, hn, hs⟩ := hrel
      by_cases hlt : k < o.length
      · rcases RK.out _ hs with ⟨h', _⟩ | ⟨bl, off, c', hv, _, hbs, _, hc⟩
        · have := congrArg List.length h'; rw [nums_len, List.length_nil] at this; omega
        rw [nums_len] at hv
        cases hv
        have c0 := hc k (by rw [nums_len]; exact hlt)
        rw [nums_get] at c0
        obtain ⟨q, hq⟩ : ∃ q, o.getD k 0 = q := ⟨_, rfl⟩
        rw [hq] at c0
        have hki : (k : Int) < (o.length : Int) := by omega
        by_cases hqp : q = p
        · subst hqp
          have HN := Lib.hid (numOf_first hlt hq hn.out)
          have e2 : ((q : Int) == (q : Int)) = true := by simp
          have HD := Lib.hid (fun (W : World) => sDigits_any (k : Int) W (by omega) (by omega))
          have hds : (digs (k : Int)).size ≤ 21 := digs_size _
          have HDL := Lib.hid (show digs (k : Int) = st (digL (k : Int)) from rfl)
          obtain ⟨D, hD⟩ : ∃ D, digs (k : Int) = D := ⟨_, rfl⟩
          rw [hD] at hds HDL HD
          have hz1 : (⟨#[32, 64]⟩ : ByteArray).size + D.size ≤ 9223372036854775807 := by show 2 + D.size ≤ _; omega
          have HS := Lib.hid hs
          clear hs hc hq hn hD
          go_wp2_with fail
          go_quiet ((go_at_call 50; exact Calls.quiet_of_same (HR.out _)))
          have b1 := below_drewN (HS.out.below w.heap.size) nq
          go_wp2_with (go_at_call 70; refine (HD.out _).mono ?_; rintro e w5 ⟨rfl, b5⟩)
          have b2 := b1.trans (b5.mono b1.size)
          have B2 := Lib.hid b2
          clear b1 b5 b2
          go_ret
          exact ⟨by rw [HWT.out, HN.out, ← st_append, ← HDL.out]; rfl, B2.out⟩
        · have e2 : ((q : Int) == (p : Int)) = false := by simp; omega
          have HN := Lib.hid (show ∀ j, j < k + 1 → o.getD j 0 ≠ p from fun j hj => by
            by_cases e : j = k
            · subst e; rw [hq]; exact hqp
            · exact hn.out j (by omega))
          have HS := Lib.hid hs
          clear hs hc hq hn hqp
          go_wp2_with fail
          go_quiet ((go_at_call 50; exact Calls.quiet_of_same (HR.out _)))
          have hs' := HS.out.trans (⟨nq, rfl⟩ : Still wr _)
          go_wp2
          go_roundw
          case rel => exact ⟨k + 1, hlt, by go_num, HN, hs'⟩
          case measure => simp [intOf]; omega
      · exfalso
        obtain ⟨j, hj, he⟩ := List.mem_iff_getElem.1 HM.out
        exact hn.out j (by omega) (by rw [List.getD_eq_getElem?_getD, List.getElem?_eq_getElem hj]; exact he)
  · have e1 : (x % 2 == 0) = false := by simp; omega
    obtain ⟨b0, b1⟩ : -1073741824 ≤ x / 2 ∧ x / 2 ≤ 1073741823 := by rw [wordIn_odd hev] at hx; exact inB_true.1 hx
    have HWT := Lib.hid (show wordTxt o x = [32] ++ digL (x / 2) by unfold wordTxt; rw [if_neg hev])
    have HD := Lib.hid (fun (W : World) => sDigits_any (x / 2) W (by omega) (by omega))
    have hds : (digs (x / 2)).size ≤ 21 := digs_size _
    have HDL := Lib.hid (show digs (x / 2) = st (digL (x / 2)) from rfl)
    obtain ⟨D, hD⟩ : ∃ D, digs (x / 2) = D := ⟨_, rfl⟩
    rw [hD] at hds HDL HD
    have hz1 : (⟨#[32]⟩ : ByteArray).size + D.size ≤ 9223372036854775807 := by show 1 + D.size ≤ _; omega
    clear hr hx hm hev hD
    go_enter Try.func69, Try.ntmps69
    go_wp2_with (first | (go_at_call 78; refine (sIsRef_any _ _).mono ?_; rintro e w' ⟨rfl, rfl⟩) | (go_at_call 80; refine (sWordInt_any _ _).mono ?_; rintro e w' ⟨rfl, rfl⟩) | (go_at_call 70; refine (HD.out _).mono ?_; rintro e w5 ⟨rfl, b5⟩))
    go_ret
    exact ⟨by rw [HWT.out, ← st_append, ← HDL.out]; rfl, b5⟩

theorem hTag_in {X : Int} (h : hOk X = true) : 0 ≤ hTag X ∧ hTag X ≤ 3000 := by
  obtain ⟨h1, h2, h3, h4⟩ := hOk_true.1 h
  unfold hTag at h3 ⊢
  omega
theorem st_size_le {l : List UInt8} {m : Nat} (h : l.length ≤ m) : (st l).size ≤ m := by rw [st_size]; exact h

set_option maxHeartbeats 4000000 in
set_option maxRecDepth 100000 in
theorem sShape_any {B : Nat} (v vr : Value) (ws rs : List Int) (h b n : Int) (w : World) (hr : Rd B .i64 w v ws) (hw : intsOk ws) (hlen : ws.length ≤ 4294967296) (hq : Rd B .i64 w vr rs) (hrl : rs.length ≤ 4294967296)
    (bh : -9223372036854775808 ≤ h ∧ h ≤ 9223372036854775807) (ib : -9223372036854775808 ≤ b ∧ b ≤ 9223372036854775807) (bn : -9223372036854775808 ≤ n ∧ n ≤ 9223372036854775807) :
    Calls Try.prog 30 #[.agg #[v, .int .i64 h, .int .i64 b, .int .i64 n], vr] w fun e w' => e = .returned (.string (shapeOf ws h b n rs)) ∧ Below w.heap.size w w' := by
  have hO := fun (W : World) (hb : Below w.heap.size w W) => l18Right_any v vr ws rs h b n W (hr.below' hb) hw hlen (hq.below' hb) hrl bh ib bn
  cases hok : rightOf ws h b n rs
  · obtain ⟨a, cap, rfl⟩ := hr.form
    obtain ⟨qa, qc, rfl⟩ := hq.form
    rw [hok] at hO
    have HO := Lib.hid hO
    have HF := Lib.hid (shapeOf_not hok)
    clear hO hr hw bh ib bn hok hq
    go_enter Try.func30, Try.ntmps30
    go_wp2_with fail
    generalize hx : w.alloc _ = x
    obtain ⟨bb, k1⟩ := Bx.alloc hx
    clear hx
    refine (HO.out _ bb).mono ?_
    rintro e w1 ⟨rfl, b1⟩
    replace k1 := k1.below b1 k1.1
    replace bb := bb.trans (b1.mono bb.size)
    clear b1
    go_wp2
    go_ret
    exact ⟨by rw [HF.out]; rfl, bb⟩
  · rw [hok] at hO
    have HO := Lib.hid hO
    have HF0 := shapeOf_yes hok
    obtain ⟨h', b', n', ps, rfl, rfl, rfl, hR, hx⟩ := Right.ofR hok
    have hM := fun (W : World) (hb : Below w.heap.size w W) => l18Order_any v vr ws rs h' b' n' ps W hR (hr.below' hb) hw (hq.below' hb) hx hrl
    have hoO := order_ok hR hx
    have hol : (orderOf ws rs).length ≤ 6000 := Nat.le_trans (hR.ord_len hoO) hR.n_le.2
    have hcr := order_roots ws rs
    have hck := fun (p : Nat) (hp : p ∈ orderOf ws rs) => order_kids hR hx hp
    obtain ⟨o, ho⟩ : ∃ o, orderOf ws rs = o := ⟨_, rfl⟩
    rw [ho] at hM HF0 hoO hol hcr hck
    have hWd := fun (B : Nat) (u : Value) (x : Int) (W : World) (hr : Rd B .i64 W u (nums o)) (hx : wordIn ps x = true) (hm : x % 2 = 0 → (x / 2).toNat ∈ o) => l18Word_any u ps o x W hr hx hm hol
    have HM := Lib.hid hM
    have HF := Lib.hid HF0
    have HW := Lib.hid hWd
    have HR := Lib.hid hR
    have HX := Lib.hid hx
    have HOO := Lib.hid hoO
    have HCR := Lib.hid hcr
    have HCK := Lib.hid hck
    have HWO := Lib.hid hw
    have RW := Lib.hid (fun (W : World) (hb : Below w.heap.size w W) => hr.below' hb)
    have RQ := Lib.hid (fun (W : World) (hb : Below w.heap.size w W) => hq.below' hb)
    obtain ⟨hN1, hN2⟩ := hR.n_le
    obtain ⟨a, cap, rfl⟩ := hr.form
    obtain ⟨qa, qc, rfl⟩ := hq.form
    clear hO hr hw bh ib bn hok hq hM hoO ho hWd HF0 hR hx hcr hck
    go_enter Try.func30, Try.ntmps30
    go_wp2_with fail
    generalize hx : w.alloc _ = x
    obtain ⟨bb, k1⟩ := Bx.alloc hx
    clear hx
    refine (HO.out _ bb).mono ?_
    rintro e w1 ⟨rfl, b1⟩
    replace k1 := k1.below b1 k1.1
    replace bb := bb.trans (b1.mono bb.size)
    clear b1
    have ck1 := k1.2.1
    have yk1 := k1.1
    go_wp2_with fail
    refine (HM.out _ bb).mono ?_
    rintro e w2 ⟨ov, rfl, oo, b2⟩
    clear ck1 yk1
    replace k1 := k1.below b2 k1.1
    replace bb := bb.trans (b2.mono bb.size)
    clear b2
    obtain ⟨oa, oc, rfl⟩ := own_form oo
    have ro := Rd.of_nums oo
    have z2 : w2.heap.size ≤ w2.heap.size := Nat.le_refl _
    have K1 := Lib.hid k1
    have RO := Lib.hid ro
    have BB := Lib.hid bb
    clear oo k1 ro bb
    go_wp2
    go_loopw [6, 7] (fun t i wr => ∃ k : Nat, k ≤ rs.length ∧ i = .int .i64 k ∧ t = .string (st (wordsTxt o (rs.take k))) ∧ Bx wr w.heap.size #[.slice a ws.length cap, .int .i64 h', .int .i64 b', .int .i64 n'] ∧
      Rd w2.heap.size .i64 wr (.slice oa o.length oc) (nums o) ∧ w2.heap.size ≤ wr.heap.size ∧ Below w.heap.size w wr) (fun _ i _ => rs.length - (intOf i).toNat)
    case atStart => exact ⟨0, Nat.zero_le _, rfl, rfl, K1.out, RO.out, z2, BB.out⟩
    case round =>
      clear K1 RO BB z2
      obtain ⟨k, hk, rfl, rfl, k1, ro, z2, bb⟩ := hrel
      have hsl : (st (wordsTxt o (rs.take k))).size ≤ 98784247808 := st_size_le (by have h1 := wordsTxt_len o (rs.take k); have h2 := take_len_le rs k; omega)
      by_cases hlt : k < rs.length
      · rcases RQ.out _ bb with ⟨h', _⟩ | ⟨bl, off, c', hv, _, hbs, _, hc⟩
        · rw [h'] at hlt; simp at hlt
        cases hv
        have c0 := hc k hlt
        have hst : wordsTxt o (rs.take (k + 1)) = wordsTxt o (rs.take k) ++ wordTxt o (rs.getD k 0) := flatMap_take (wordTxt o) 0 rs k hlt
        have hx1 := all_get HX.out hlt
        have hm1 := HCR.out (rs.getD k 0) (by rw [List.getD_eq_getElem?_getD, List.getElem?_eq_getElem hlt]; exact List.getElem_mem hlt)
        obtain ⟨x, hxx⟩ : ∃ x, rs.getD k 0 = x := ⟨_, rfl⟩
        rw [hxx] at c0 hst hx1 hm1
        have HC := Lib.hid (HW.out _ _ x wr ro hx1 hm1)
        have hts : (st (wordTxt o x)).size ≤ 23 := st_size_le (wordTxt_len o x)
        obtain ⟨T, hT⟩ : ∃ T, st (wordTxt o x) = T := ⟨_, rfl⟩
        rw [hT] at HC hts
        obtain ⟨S, hS⟩ : ∃ S, st (wordsTxt o (rs.take k)) = S := ⟨_, rfl⟩
        rw [hS] at hsl ⊢
        have hz1 : S.size + T.size ≤ 9223372036854775807 := by omega
        have HST := Lib.hid hst
        have HS := Lib.hid hS
        have HT := Lib.hid hT
        clear hst hxx hc hx1 hm1 hS hT
        go_wp2_with fail
        refine HC.out.mono ?_
        rintro e w4 ⟨rfl, b4⟩
        replace ro := ro.below b4 z2
        have z4 := b4.size
        replace k1 := k1.below b4 k1.1
        replace bb := bb.trans (b4.mono bb.size)
        clear b4
        have K1 := Lib.hid k1
        have RO := Lib.hid ro
        have BB := Lib.hid bb
        clear k1 ro bb c0
        go_wp2
        go_roundw
        case rel => exact ⟨k + 1, hlt, by go_num, by rw [HST.out, ← st_append, HS.out, HT.out], K1.out, RO.out, by omega, BB.out⟩
        case measure => simp [intOf]; omega
      · obtain rfl : k = rs.length := by omega
        rw [List.take_of_length_le (Nat.le_refl _)] at hsl ⊢
        have hz1 : (st (wordsTxt o rs)).size + (⟨#[10]⟩ : ByteArray).size ≤ 9223372036854775807 := by show _ + 1 ≤ _; omega
        have HT0 := Lib.hid (show st (wordsTxt o rs) ++ (⟨#[10]⟩ : ByteArray) = st ((wordsTxt o rs ++ [10]) ++ (o.take 0).flatMap (blockTxt ws o)) by rw [← st_append]; simp [st_append]; rfl)
        have hT0 : (wordsTxt o rs ++ [10]).length ≤ 98784247809 := by have := wordsTxt_len o rs; simp; omega
        obtain ⟨T0, hT0e⟩ : ∃ T0, wordsTxt o rs ++ [10] = T0 := ⟨_, rfl⟩
        rw [hT0e] at hT0 HT0
        have HF2 := Lib.hid (show shapeOf ws h' b' n' rs = st (T0 ++ o.flatMap (blockTxt ws o)) by rw [HF.out, ← hT0e]; rfl)
        have K1 := Lib.hid k1
        have RO := Lib.hid ro
        have BB := Lib.hid bb
        clear k1 ro bb hT0e
        go_wp2
        go_loopw [6, 8] (fun t i wr => ∃ k : Nat, k ≤ o.length ∧ i = .int .i64 k ∧ t = .string (st (T0 ++ (o.take k).flatMap (blockTxt ws o))) ∧ Bx wr w.heap.size #[.slice a ws.length cap, .int .i64 h', .int .i64 b', .int .i64 n'] ∧
          Rd w2.heap.size .i64 wr (.slice oa o.length oc) (nums o) ∧ w2.heap.size ≤ wr.heap.size ∧ Below w.heap.size w wr) (fun _ i _ => o.length - (intOf i).toNat)
        case atStart => exact ⟨0, Nat.zero_le _, rfl, by rw [← HT0.out], K1.out, RO.out, z2, BB.out⟩
        case round =>
          clear K1 RO BB z2 hsl
          obtain ⟨i, hio, rfl, rfl, k1, ro, z2, bb⟩ := hrel
          have hsl : (st (T0 ++ (o.take i).flatMap (blockTxt ws o))).size ≤ 98793247809 := by
            rw [st_size, List.length_append]
            have h1 := flatMap_len (blockTxt_len ws o) (o.take i)
            have h2 := take_len_le o i
            omega
          by_cases hlt : i < o.length
          · have hpm := HOO.out.2 _ (get_mem hlt)
            have hpo : o.getD i 0 ∈ o := get_mem hlt
            have hst : T0 ++ (o.take (i + 1)).flatMap (blockTxt ws o) = (T0 ++ (o.take i).flatMap (blockTxt ws o)) ++ blockTxt ws o (o.getD i 0) := by rw [flatMap_take (blockTxt ws o) 0 o i hlt, List.append_assoc]
            rcases ro with ⟨h', _⟩ | ⟨obl, ooff, c', hv, hbg, hbs, hbm, hc⟩
            · have := congrArg List.length h'; rw [nums_len, List.length_nil] at this; omega
            have ro : Rd w2.heap.size .i64 wr (.slice oa o.length oc) (nums o) := .inr ⟨obl, ooff, c', hv, hbg, hbs, hbm, hc⟩
            have co := hc i (by rw [nums_len]; exact hlt)
            rw [nums_get] at co
            rw [nums_len] at hv
            cases hv
            obtain ⟨p, hpp⟩ : ∃ p, o.getD i 0 = p := ⟨_, rfl⟩
            rw [hpp] at hpm hpo co hst
            obtain ⟨_, hpn, hph, hpf, hpk⟩ := HR.out.at_ hpm
            have hcl := HCK.out p hpo
            have hxi := HWO.out p
            rcases RW.out _ bb with ⟨h', _⟩ | ⟨bl, off, c', hv, _, hbs2, _, hc2⟩
            · rw [h'] at hN1; simp at hN1; omega
            cases hv
            have c0 := hc2 p (by omega)
            obtain ⟨X, hXX⟩ : ∃ X, ws.getD p 0 = X := ⟨_, rfl⟩
            have HXX := Lib.hid hXX
            rw [hXX] at hph hpf hxi c0
            have hX0 := (hOk_true.1 hph).2.1
            have hkn := hK_cast X
            have hkb : hK X ≤ 20 := by have := (hOk_true.1 hph).2.2.2; omega
            have HH := Lib.hid (fun (W : World) => (l17Of_any X W hX0 hxi.2).mono (fun e w' hp => And.intro hp.1 hp.2.symm))
            rw [← hkn] at HH
            obtain ⟨t0, t1⟩ := hTag_in hph
            have hbt : blockTxt ws o p = kindTxt X ++ digL (hTag X) ++ (wordsTxt o (kidsAt ws p) ++ [10]) := by unfold blockTxt; rw [hXX]
            rw [hbt] at hst
            have HD := Lib.hid (fun (W : World) => sDigits_any (hTag X) W (by omega) (by omega))
            have hds : (digs (hTag X)).size ≤ 21 := digs_size _
            have HDL := Lib.hid (show digs (hTag X) = st (digL (hTag X)) from rfl)
            obtain ⟨D, hD⟩ : ∃ D, digs (hTag X) = D := ⟨_, rfl⟩
            rw [hD] at hds HDL HD
            obtain ⟨P0, hP0⟩ : ∃ P0, T0 ++ (o.take i).flatMap (blockTxt ws o) = P0 := ⟨_, rfl⟩
            rw [hP0] at hsl hst ⊢
            obtain ⟨S, hS⟩ : ∃ S, st P0 = S := ⟨_, rfl⟩
            rw [hS] at hsl ⊢
            have q1 := k1.2.1
            have hii : (i : Int) < (o.length : Int) := by omega
            have hpi : (p : Int) < (ws.length : Int) := by omega
            have HST := Lib.hid hst
            have HS := Lib.hid hS
            have HCL := Lib.hid hcl
            have K1 := Lib.hid k1
            have RO := Lib.hid ro
            have BB := Lib.hid bb
            have HPP := Lib.hid hpp
            clear hst hc hc2 hXX hkn hxi hbt hD hP0 hS hcl hpo hpp k1 ro bb
            have main : ∃ kt : List UInt8, kt.length = 3 ∧ kindTxt X = kt ++ [32] ∧ ((hFun X = true ∧ kt = [102, 117, 110]) ∨ (hFun X = false ∧ kt = [99, 111, 110])) := by
              cases hf : hFun X
              · exact ⟨_, rfl, by unfold kindTxt; rw [hf]; rfl, .inr ⟨rfl, rfl⟩⟩
              · exact ⟨_, rfl, by unfold kindTxt; rw [hf]; rfl, .inl ⟨rfl, rfl⟩⟩
            obtain ⟨kt, hktl, hkt, hff⟩ := main
            have HKT := Lib.hid hkt
            have hF1 : (((st P0 ++ st kt) ++ (⟨#[32]⟩ : ByteArray)) ++ D) = st (P0 ++ (kindTxt X ++ digL (hTag X)) ++ wordsTxt o ((kidsAt ws p).take 0)) := by
              have h1 : (⟨#[32]⟩ : ByteArray) = st [32] := rfl
              rw [h1, HDL.out, HKT.out, st_append, st_append, st_append]
              simp [wordsTxt]
            rw [HS.out] at hF1
            have HF1 := Lib.hid hF1
            have hP0l : P0.length ≤ 98793247809 := by have := HS.out; rw [← HS.out, st_size] at hsl; exact hsl
            clear hkt hF1
            have hzA1 : S.size + (⟨#[102, 117, 110]⟩ : ByteArray).size ≤ 9223372036854775807 := by show _ + 3 ≤ _; omega
            have hzA2 : (S ++ (⟨#[102, 117, 110]⟩ : ByteArray)).size + (⟨#[32]⟩ : ByteArray).size ≤ 9223372036854775807 := by rw [ByteArray.size_append]; show _ + 3 + 1 ≤ _; omega
            have hzA3 : (S ++ (⟨#[102, 117, 110]⟩ : ByteArray) ++ (⟨#[32]⟩ : ByteArray)).size + D.size ≤ 9223372036854775807 := by rw [ByteArray.size_append, ByteArray.size_append]; show _ + 3 + 1 + _ ≤ _; omega
            have hzB1 : S.size + (⟨#[99, 111, 110]⟩ : ByteArray).size ≤ 9223372036854775807 := by show _ + 3 ≤ _; omega
            have hzB2 : (S ++ (⟨#[99, 111, 110]⟩ : ByteArray)).size + (⟨#[32]⟩ : ByteArray).size ≤ 9223372036854775807 := by rw [ByteArray.size_append]; show _ + 3 + 1 ≤ _; omega
            have hzB3 : (S ++ (⟨#[99, 111, 110]⟩ : ByteArray) ++ (⟨#[32]⟩ : ByteArray)).size + D.size ≤ 9223372036854775807 := by rw [ByteArray.size_append, ByteArray.size_append]; show _ + 3 + 1 + _ ≤ _; omega
            have hP1l : (P0 ++ (kindTxt X ++ digL (hTag X))).length ≤ 98793247834 := by
              have h1 := digL_len (hTag X)
              have h2 := kindTxt_len X
              simp only [List.length_append]
              omega
            rcases hff with ⟨hf, rfl⟩ | ⟨hf, rfl⟩
            all_goals
              rw [hf] at HH
              clear hf hktl
              go_wp2_with fail
              go_quiet ((go_at_call 48; exact Calls.quiet_of_same (HH.out _)))
              have K2 := K1.out.below (below_drewN (Below.refl _ wr) nq) K1.out.1
              have R2 := RO.out.below (below_drewN (Below.refl _ wr) nq) z2
              have B2 := below_drewN BB.out nq
              have z3 : w2.heap.size ≤ (wr.drewN nq).heap.size := z2
              generalize hwd : wr.drewN nq = w3 at K2 R2 B2 z3
              clear hwd
              go_wp2_with fail
              refine (HD.out _).mono ?_
              rintro e w5 ⟨rfl, b5⟩
              have K5 := Lib.hid (K2.below b5 K2.1)
              have R5 := Lib.hid (R2.below b5 z3)
              have B5 := Lib.hid (B2.trans (b5.mono B2.size))
              have z5 : w2.heap.size ≤ w5.heap.size := Nat.le_trans z3 b5.size
              clear K2 R2 B2 b5 K1 RO BB co c0 q1 z2 z3 HH
              go_wp2
              go_loopw [6, 12] (fun t i wr => ∃ j : Nat, 1 ≤ j ∧ j ≤ hK X + 1 ∧ i = .int .i64 j ∧ t = .string (st (P0 ++ (kindTxt X ++ digL (hTag X)) ++ wordsTxt o ((kidsAt ws p).take (j - 1)))) ∧ Bx wr w.heap.size #[.slice (some ⟨bl, off, none⟩) ws.length cap, .int .i64 h', .int .i64 b', .int .i64 n'] ∧
                Rd w2.heap.size .i64 wr (.slice (some ⟨obl, ooff, none⟩) o.length oc) (nums o) ∧ w2.heap.size ≤ wr.heap.size ∧ Below w.heap.size w wr) (fun _ i _ => hK X + 1 - (intOf i).toNat)
              case atStart => exact ⟨1, Nat.le_refl _, by omega, rfl, by rw [← HF1.out]; rfl, K5.out, R5.out, z5, B5.out⟩
              case round =>
                clear K5 R5 B5 z5
                obtain ⟨j, hj1, hj2, rfl, rfl, k1, ro, z2, bb⟩ := hrel
                obtain ⟨P1, hP1⟩ : ∃ P1, P0 ++ (kindTxt X ++ digL (hTag X)) = P1 := ⟨_, rfl⟩
                have hP1l' := hP1l
                rw [hP1] at hP1l' ⊢
                have hkl2 := kidsAt_le ws p
                have hsl : (st (P1 ++ wordsTxt o ((kidsAt ws p).take (j - 1)))).size ≤ 98793250000 := by
                  rw [st_size, List.length_append]
                  have h1 := wordsTxt_len o ((kidsAt ws p).take (j - 1))
                  have h2 := take_len_le (kidsAt ws p) (j - 1)
                  omega
                by_cases hjk : j ≤ hK X
                · have hkl : (kidsAt ws p).length = hK X := by rw [kidsAt_len (by rw [HXX.out]; omega), HXX.out]
                  have hjl : j - 1 < (kidsAt ws p).length := by omega
                  have hy0 : (kidsAt ws p).getD (j - 1) 0 = ws.getD (p + j) 0 := by rw [kids_get (by rw [HXX.out]; omega), show p + (j - 1 + 1) = p + j by omega]
                  have hx1 := all_get hpk hjl
                  have hm1 := HCL.out ((kidsAt ws p).getD (j - 1) 0) (by rw [List.getD_eq_getElem?_getD, List.getElem?_eq_getElem hjl]; exact List.getElem_mem hjl)
                  have hst : wordsTxt o ((kidsAt ws p).take (j - 1 + 1)) = wordsTxt o ((kidsAt ws p).take (j - 1)) ++ wordTxt o ((kidsAt ws p).getD (j - 1) 0) := flatMap_take (wordTxt o) 0 _ _ hjl
                  rw [hy0, show j - 1 + 1 = j + 1 - 1 by omega] at hst
                  rw [hy0] at hx1 hm1
                  rcases ro with ⟨h', _⟩ | ⟨obl', ooff', c', hv, hbg', hbs', hbm', hc⟩
                  · have := congrArg List.length h'; rw [nums_len, List.length_nil] at this; omega
                  have ro : Rd w2.heap.size .i64 wr (.slice (some ⟨obl, ooff, none⟩) o.length oc) (nums o) := .inr ⟨obl', ooff', c', hv, hbg', hbs', hbm', hc⟩
                  have co := hc i (by rw [nums_len]; exact hlt)
                  rw [nums_get, HPP.out] at co
                  rw [nums_len] at hv
                  cases hv
                  rcases RW.out _ bb with ⟨h', _⟩ | ⟨bl', off', c', hv, _, hbs2', _, hc2⟩
                  · rw [h'] at hN1; simp at hN1; omega
                  cases hv
                  have c0 := hc2 (p + j) (by omega)
                  obtain ⟨x, hxx⟩ : ∃ x, ws.getD (p + j) 0 = x := ⟨_, rfl⟩
                  rw [hxx] at c0 hx1 hst hm1
                  have HC := Lib.hid (fun (B : Nat) (W : World) (r : Rd B .i64 W (.slice (some ⟨obl, ooff, none⟩) o.length oc) (nums o)) => HW.out B _ x W r hx1 hm1)
                  have hts : (st (wordTxt o x)).size ≤ 23 := st_size_le (wordTxt_len o x)
                  obtain ⟨T, hT⟩ : ∃ T, st (wordTxt o x) = T := ⟨_, rfl⟩
                  rw [hT] at HC hts
                  obtain ⟨S2, hS2⟩ : ∃ S2, st (P1 ++ wordsTxt o ((kidsAt ws p).take (j - 1))) = S2 := ⟨_, rfl⟩
                  rw [hS2] at hsl ⊢
                  have hz1 : S2.size + T.size ≤ 9223372036854775807 := by omega
                  have hadd := fun (W : World) => run_string_add_sum (P := Try.prog) W S2 T hz1
                  have q10 : wr.cell? ⟨w.heap.size, 0, none⟩ = some (.slice (some ⟨bl, off, none⟩) ws.length cap) := k1.2.1 0
                  have s1 : IntKind.i64.wrap ((p : Int) + (j : Int)) = (p : Int) + (j : Int) := IntWalk.i64_in _ (by omega)
                  have s2 : (0 : Int) ≤ (p : Int) + (j : Int) := by omega
                  have s3 : ((p : Int) + (j : Int)).toNat = p + j := by omega
                  have s4 : (p : Int) + (j : Int) < (ws.length : Int) := by omega
                  have l1 := k1.1
                  have HST := Lib.hid hst
                  have HS2 := Lib.hid hS2
                  have HT := Lib.hid hT
                  have HP1 := Lib.hid hP1
                  have K1 := Lib.hid k1
                  have RO := Lib.hid ro
                  have BB := Lib.hid bb
                  clear hst hxx hc hc2 hx1 hm1 hS2 hT hP1 hkl hjl hy0 k1 ro bb
                  go_wp2_with fail
                  go_region_held3 (fun w' => w'.cell? ⟨w.heap.size, 0, none⟩ = some (.slice (some ⟨bl, off, none⟩) ws.length cap) ∧ w'.cell? ⟨obl, ooff + i, none⟩ = some (.int .i64 p) ∧ w'.cell? ⟨bl, off + (p + j), none⟩ = some (.int .i64 x))
                    (first | (go_split_ands; refine ⟨?_, ?_, ?_⟩ <;> (refine (b9.cell (by simp only [World.size_drew]; omega)).trans ?_; with_reducible assumption)) | (go_keep; done)) (first | (go_at_call 69; refine (HC.out _ _ (by exact RO.out.below ((Below.refl _ _).drew) (Nat.le_refl _))).mono ?_; rintro e w9 ⟨hu, b9⟩; subst hu))
                  clear s1 s2 s3 s4 hadd
                  have b9' : Below wr.heap.size wr w9 := ((Below.refl _ _).drew).trans b9
                  have K9 := Lib.hid (K1.out.below b9' l1)
                  have R9 := Lib.hid (RO.out.below b9' z2)
                  have B9 := Lib.hid (BB.out.trans (b9'.mono BB.out.size))
                  have z9 : w2.heap.size ≤ w9.heap.size := Nat.le_trans z2 b9'.size
                  clear b9 b9' K1 RO BB q10 co c0 z2
                  go_wp2
                  go_roundw
                  case rel => exact ⟨j + 1, by omega, by omega, by go_num, by rw [HST.out, ← List.append_assoc, ← st_append, HS2.out, HT.out], K9.out, R9.out, z9, B9.out⟩
                  case measure => simp [intOf]; omega
                · have hkl : (kidsAt ws p).length = hK X := by rw [kidsAt_len (by rw [HXX.out]; omega), HXX.out]
                  rw [List.take_of_length_le (by omega)] at hsl ⊢
                  have hz1 : (st (P1 ++ wordsTxt o (kidsAt ws p))).size + (⟨#[10]⟩ : ByteArray).size ≤ 9223372036854775807 := by show _ + 1 ≤ _; omega
                  have HE := Lib.hid (show st (P1 ++ wordsTxt o (kidsAt ws p)) ++ (⟨#[10]⟩ : ByteArray) = st (T0 ++ (o.take (i + 1)).flatMap (blockTxt ws o)) by
                    have h1 : (⟨#[10]⟩ : ByteArray) = st [10] := rfl
                    rw [h1, st_append, HST.out, ← hP1]
                    simp)
                  have K1 := Lib.hid k1
                  have RO := Lib.hid ro
                  have BB := Lib.hid bb
                  clear hkl hP1 k1 ro bb
                  go_wp2
                  go_roundw
                  case rel => exact ⟨i + 1, by omega, by go_num, by rw [← HE.out], K1.out, RO.out, z2, BB.out⟩
                  case measure => simp [intOf]; omega
          · obtain rfl : i = o.length := by omega
            rw [List.take_of_length_le (Nat.le_refl _)] at hsl ⊢
            have BB := Lib.hid bb
            clear bb k1 ro
            go_wp2
            go_ret
            exact ⟨by rw [HF2.out]; rfl, BB.out⟩

end Go.Proofs.Ytmcoidnonmmpjaa

/- Reach of the program. -/
namespace Go.Proofs.Ytmcoidnonmmpjaa
open Go.RowKit
set_option linter.unusedVariables false

open Go.Sort in
theorem sort_any {base : Nat} (v : Value) (zs : List Int) (w : World) (ho : w.ownsRow base 3 1 v zs.length (zs.map (Value.int .i64))) (hl : zs.length ≤ 4294967296) :
    Calls Try.prog 61 #[v] w fun e w' => e = .returned (.tuple #[]) ∧ w'.ownsRow base 3 1 v zs.length ((zs.mergeSort fun x y => decide (x ≤ y)).map (Value.int .i64)) ∧ w.grownBy w' v.ownBlock := by
  by_cases h0 : zs.length = 0
  · obtain rfl : zs = [] := List.eq_nil_of_length_eq_zero h0
    obtain ⟨a, c, rfl⟩ := own_form ho
    refine (Try.slices_Sort_int_none a c w).mono ?_
    rintro e w' ⟨rfl, rfl⟩
    exact ⟨rfl, by rw [List.mergeSort_nil]; exact ho, grownBy.refl _ _⟩
  · rcases ho.2 with ⟨_, h⟩ | ⟨g, cap, cur, rfl, hbg, hg, hn, hm, hc, ht⟩
    · exact absurd h h0
    · have hgl : g < w.heap.size := (Array.getElem?_eq_some_iff.1 hg).1
      refine (Try.slices_Sort_int g 0 cap zs w (holds_of_blockI hg (by simpa using ht)) hgl (by omega)).mono ?_
      rintro e w' ⟨rfl, nn, os, rfl⟩
      exact ⟨rfl, ownsRow_sortedI (n := nn) (os := os) (ts := zs.mergeSort fun x y => decide (x ≤ y)) (List.length_mergeSort zs) hbg hg hn hm hc, grownBy_sortedI (w := w) (g := g) (n := nn) (os := os) _⟩

set_option maxHeartbeats 800000 in
set_option maxRecDepth 100000 in
theorem iReach_any {B : Nat} (v vr : Value) (ws rs : List Int) (h b n : Int) (w : World) (hr : Rd B .i64 w v ws) (hw : intsOk ws) (hlen : ws.length ≤ 4294967296) (hq : Rd B .i64 w vr rs) (hrl : rs.length ≤ 4294967296)
    (bh : -9223372036854775808 ≤ h ∧ h ≤ 9223372036854775807) (ib : -9223372036854775808 ≤ b ∧ b ≤ 9223372036854775807) (bn : -9223372036854775808 ≤ n ∧ n ≤ 9223372036854775807) :
    Calls Try.prog 27 #[.agg #[v, .int .i64 h, .int .i64 b, .int .i64 n], vr] w fun e w' => ∃ u, e = .returned u ∧ w'.ownsRow w.heap.size 3 1 u (reachOf ws h b n rs).length ((reachOf ws h b n rs).map (Value.int .i64)) ∧ Below w.heap.size w w' := by
  have hO := fun (W : World) (hb : Below w.heap.size w W) => iRootsOk_any v vr ws rs h b n W (hr.below' hb) hw hlen (hq.below' hb) bh ib bn
  cases hok : rightOf ws h b n rs
  · obtain ⟨a, cap, rfl⟩ := hr.form
    obtain ⟨qa, qc, rfl⟩ := hq.form
    rw [hok] at hO
    have HO := Lib.hid hO
    have HF := Lib.hid (reachOf_not hok)
    clear hO hr hw bh ib bn hok hq
    go_enter Try.func27, Try.ntmps27
    go_wp2_with fail
    generalize hx : w.alloc _ = x
    obtain ⟨bb, k1⟩ := Bx.alloc hx
    clear hx
    refine (HO.out _ bb).mono ?_
    rintro e w1 ⟨rfl, b1⟩
    replace k1 := k1.below b1 k1.1
    replace bb := bb.trans (b1.mono bb.size)
    clear b1
    go_wp2
    go_ret
    exact ⟨_, rfl, by rw [HF.out]; exact World.ownsRow_nil _ _ _ _, bb⟩
  · rw [hok] at hO
    have HO := Lib.hid hO
    have HF := reachOf_yes hok
    obtain ⟨h', b', n', ps, rfl, rfl, rfl, hR, hx⟩ := Right.ofR hok
    have hM := fun (W : World) (hb : Below w.heap.size w W) => met_any v vr ws rs h' b' n' ps W hR (hr.below' hb) hw (hq.below' hb) hx hrl
    have hoO := order_ok hR hx
    have hol : (orderOf ws rs).length ≤ 6000 := Nat.le_trans (hR.ord_len hoO) hR.n_le.2
    obtain ⟨o, ho⟩ : ∃ o, orderOf ws rs = o := ⟨_, rfl⟩
    rw [ho] at hM HF hoO hol
    have hS := sort_ins (nums_nodup hoO.1)
    have HM := Lib.hid hM
    have HFF := Lib.hid (HF.trans hS.symm)
    obtain ⟨a, cap, rfl⟩ := hr.form
    obtain ⟨qa, qc, rfl⟩ := hq.form
    clear hO hr hw bh ib bn hok hq hM ho HF hR hx hS hoO
    go_enter Try.func27, Try.ntmps27
    go_wp2_with fail
    generalize hx : w.alloc _ = x
    obtain ⟨bb, k1⟩ := Bx.alloc hx
    clear hx
    refine (HO.out _ bb).mono ?_
    rintro e w1 ⟨rfl, b1⟩
    replace k1 := k1.below b1 k1.1
    replace bb := bb.trans (b1.mono bb.size)
    clear b1
    have ck1 := k1.2.1
    have yk1 := k1.1
    go_wp2_with fail
    refine (HM.out _ bb).mono ?_
    rintro e w2 ⟨ov, nv, rfl, oo, rn, b2⟩
    clear ck1 yk1
    have z1 := bb.size
    replace k1 := k1.below b2 k1.1
    replace bb := bb.trans (b2.mono bb.size)
    clear b2
    obtain ⟨oa, oc, rfl⟩ := own_form oo
    rw [map_ofN] at oo
    have oo' : w2.ownsRow w1.heap.size 3 1 (.slice oa o.length oc) (nums o).length ((nums o).map (Value.int .i64)) := by rw [nums_len]; exact oo
    have hC := sort_any _ (nums o) w2 oo' (by rw [nums_len]; omega)
    have HC := Lib.hid hC
    have OO := Lib.hid oo
    have BB := Lib.hid bb
    clear oo oo' hC bb rn
    go_wp2_with fail
    refine HC.out.mono ?_
    rintro e w3 ⟨rfl, o3, g3⟩
    have b3 := BB.out.trans (Below.of_grown (B := w.heap.size) g3 BB.out.size (fun k hk => Nat.le_trans z1 (OO.out.lt k hk).1))
    have O3 := Lib.hid o3
    clear o3 g3
    go_wp2
    go_ret
    refine ⟨_, rfl, ?_, b3⟩
    rw [HFF.out, List.length_mergeSort]
    exact own_base O3.out z1

end Go.Proofs.Ytmcoidnonmmpjaa

/- l5Insert, Reach of the reference. -/
namespace Go.Proofs.Ytmcoidnonmmpjaa
open Go.RowKit
set_option linter.unusedVariables false

theorem Rd.cut {B : Nat} {k : IntKind} {w : World} {b off cap : Nat} {zs : List Int} (hr : Rd B k w (.slice (some ⟨b, off, none⟩) zs.length cap) zs) (a : Nat) (ha : a ≤ zs.length) (c : Nat) (hc : a ≤ c) : Rd B k w (.slice (some ⟨b, off, none⟩) a c) (zs.take a) := by
  rcases hr with ⟨h', _⟩ | ⟨b', off', c', hv, hB, hb, hm, hcell⟩
  · subst h'
    have : a = 0 := by simpa using ha
    subst this
    exact .inl ⟨rfl, _, _, rfl⟩
  · cases hv
    have hl : (zs.take a).length = a := by simp; omega
    refine .inr ⟨b, off, c, by rw [hl], hB, hb, ⟨by omega, by omega⟩, fun j hj => ?_⟩
    rw [hl] at hj
    rw [hcell j (by omega)]
    simp [List.getD, hj]
theorem Rd.rest {B : Nat} {k : IntKind} {w : World} {b off cap : Nat} {zs : List Int} (hr : Rd B k w (.slice (some ⟨b, off, none⟩) zs.length cap) zs) (a : Nat) (ha : a ≤ zs.length) (q : Nat) (hq : q = off + a) (c m : Nat) (hm' : m = zs.length - a) (hc : m ≤ c) : Rd B k w (.slice (some ⟨b, q, none⟩) m c) (zs.drop a) := by
  subst hq
  subst hm'
  rcases hr with ⟨h', _⟩ | ⟨b', off', c', hv, hB, hb, hm, hcell⟩
  · subst h'
    exact .inl ⟨by simp, some ⟨b, off + a, none⟩, c, by simp⟩
  · cases hv
    have hl : (zs.drop a).length = zs.length - a := by simp
    refine .inr ⟨b, off + a, c, by rw [hl], hB, hb, ⟨by omega, by omega⟩, fun j hj => ?_⟩
    rw [hl] at hj
    rw [Nat.add_assoc, hcell (a + j) (by omega)]
    simp [List.getD]

set_option maxHeartbeats 1600000 in
set_option maxRecDepth 100000 in
theorem l5Insert_any {base : Nat} (v : Value) (zs : List Int) (n : Int) (w : World) (ho : w.ownsRow base 3 1 v zs.length (zs.map (Value.int .i64))) (hb : base ≤ w.heap.size) (hl : zs.length ≤ 6000) :
    Calls Try.prog 63 #[v, .int .i64 n] w fun e w' => ∃ u, e = .returned u ∧ w'.ownsRow base 3 1 u (insI n zs).length ((insI n zs).map (Value.int .i64)) ∧ Below w.heap.size w w' := by
  obtain ⟨i0, hi, hz0, hz1, hz2⟩ := info_parts Try.infoI2
  have hr := Rd.of_own ho
  obtain ⟨a, c, rfl⟩ := own_form ho
  have HO := Lib.hid ho
  have HRd := Lib.hid hr
  have hc : ∀ k, k < zs.length → ∃ b off, a = some ⟨b, off, none⟩ ∧ w.cell? ⟨b, off + k, none⟩ = some (.int .i64 (zs.getD k 0)) := by
    intro k hk
    rcases hr with ⟨h', _⟩ | ⟨b, off, c', hv, _, _, _, hcell⟩
    · rw [h'] at hk; simp at hk
    · cases hv; exact ⟨b, off, rfl, hcell k hk⟩
  have HC := Lib.hid hc
  clear ho hr hc
  go_enter Try.func63, Try.ntmps63
  go_wp2
  go_loop [5] (fun i => ∃ k : Nat, k ≤ zs.length ∧ i = .int .i64 k ∧ Hid (∀ j, j < k → zs.getD j 0 < n)) (fun i => zs.length - (intOf i).toNat)
  case atStart => exact ⟨0, Nat.zero_le _, rfl, Lib.hid (fun j hj => absurd hj (by omega))⟩
  case round =>
    obtain ⟨k, hk, rfl, hn⟩ := hrel
    by_cases hlt : k < zs.length
    · obtain ⟨b, off, rfl, c0⟩ := HC.out k hlt
      obtain ⟨x, hxx⟩ : ∃ x, zs.getD k 0 = x := ⟨_, rfl⟩
      rw [hxx] at c0
      have hki : (k : Int) < (zs.length : Int) := by omega
      by_cases hxn : x < n
      · have e1 : decide (x < n) = true := by simpa using hxn
        have HN := Lib.hid (show ∀ j, j < k + 1 → zs.getD j 0 < n from fun j hj => by
          by_cases e : j = k
          · subst e; rw [hxx]; exact hxn
          · exact hn.out j (by omega))
        clear hxx hn hxn
        go_wp2
        go_round
        case rel => exact ⟨k + 1, hlt, by go_num, HN⟩
        case measure => simp [intOf]; omega
      · have e1 : decide (x < n) = false := by simpa using hxn
        have hins := insI_at zs k hk hn.out (fun _ => by rw [hxx]; omega)
        by_cases hxe : x = n
        · have e2 : (x == n) = true := by simpa using hxe
          rw [if_pos ⟨hlt, by rw [hxx]; exact hxe⟩] at hins
          have HI := Lib.hid hins
          clear hxx hn hxn hxe hins
          go_wp2
          go_ret
          exact ⟨_, rfl, by rw [HI.out]; exact HO.out, Below.refl _ _⟩
        · have e2 : (x == n) = false := by simpa using hxe
          rw [if_neg (by rw [hxx]; exact fun h => hxe h.2)] at hins
          have HI := Lib.hid hins
          have hcap : zs.length ≤ c := by
            rcases HRd.out with ⟨h', _⟩ | ⟨_, _, _, hv, _, _, hm, _⟩
            · rw [h'] at hlt; simp at hlt
            · cases hv; exact hm.2
          have hck : ¬ c = k := by omega
          have R1 := Lib.hid (fun (W : World) (hb : Below w.heap.size w W) (cc : Nat) (hcc : k ≤ cc) => (HRd.out.below hb (Nat.le_refl _)).cut k hk cc hcc)
          have R2 := Lib.hid (fun (W : World) (hb : Below w.heap.size w W) (cc m : Nat) (hm : m = zs.length - k) (hcc : m ≤ cc) => (HRd.out.below hb (Nat.le_refl _)).rest k hk (off + k) rfl cc m hm hcc)
          clear hxx hn hxn hxe hins
          go_wp2_with (first | (at_builtin; refine wpList_copy_rd _ rfl (.tmp 34) (.tmp 37) 24 rfl w.heap.size 3 i0 (.int .i64 0) 8 Try.underlying24 hi hz0 hz1 hz2 rfl w.heap.size (by rfl) (by exact heap_alloc_new w _) (Nat.le_refl _) (some ⟨b, off, none⟩) k c (zs.take k) (by rfl) (R1.out _ ((Below.refl _ _).alloc (Nat.le_refl _) _) c (by omega)) (by omega) (by decide) ?_; intro v1 w1 o1 g1; have b1 := Below.grown_at ((Below.refl w.heap.size w).alloc (Nat.le_refl _) (.cells #[] 3)) g1 (by simp) (Nat.le_refl _); have y1 := b1.size; clear g1) | (at_builtin; refine wpList_app1_at rfl (.tmp 39) (.tmp 41) 24 rfl w.heap.size 3 i0 (.int .i64 0) 1 8 Try.underlying24 hi hz0 hz1 hz2 rfl (by decide) v1 _ _ (by rfl) o1 #[.int .i64 n] rfl (by simp [Value.oneCell']) w1.heap.size rfl (by rfl) (by (try rw [List.length_take]); unfold maxLen; omega) (by (try rw [List.length_take]); omega) (by omega) ?_; intro v2 w2 o2 g2 _; have b2 := b1.trans (Below.of_grown (B := w.heap.size) g2 (by omega) (fun kk hk => (o1.lt kk hk).1)); have y2 := b2.size; clear g2) | (at_builtin; refine wpList_app_rd (B := w.heap.size) (k := .i64) _ rfl (.tmp 43) (.tmp 46) 24 rfl w.heap.size 3 i0 (.int .i64 0) 8 Try.underlying24 hi hz0 hz1 hz2 rfl v2 _ _ (by rfl) o2 (some ⟨b, off + k, none⟩) (zs.length - k) (c - k) (zs.drop k) (by rfl) (R2.out _ b2 (c - k) (zs.length - k) rfl (by omega)) (by (try rw [List.length_take]); omega) (by decide) (by omega) ?_; intro v3 w3 o3 g3 _))
          have b3 := b2.trans (Below.of_grown (B := w.heap.size) g3 (by omega) (fun kk hk => (o2.lt kk hk).1))
          have O3 := Lib.hid o3
          clear o1 o2 o3 g3 b1 b2
          go_ret
          refine ⟨_, rfl, ?_, b3⟩
          rw [HI.out]
          refine own_base (base := w.heap.size) ?_ hb
          have o := O3.out
          rw [show (zs.take k).length + 1 + (zs.length - k) = (zs.take k ++ n :: zs.drop k).length by simp; omega] at o
          simpa using o
    · obtain rfl : k = zs.length := by omega
      have hins := insI_at zs zs.length (Nat.le_refl _) hn.out (fun h => absurd h (by omega))
      rw [if_neg (fun h => absurd h.1 (by omega)), List.take_of_length_le (Nat.le_refl _), List.drop_eq_nil_of_le (Nat.le_refl _)] at hins
      have HI := Lib.hid hins
      clear hn hins
      have hcap : zs.length ≤ c := by
        rcases HO.out.2 with ⟨hv, _⟩ | ⟨g, cap, cur, hv, _, _, hn, _⟩
        · injection hv with _ h2 h3; omega
        · injection hv with _ h2 h3; omega
      by_cases hck : c = zs.length
      · subst hck
        go_wp2_with (first | (at_builtin; refine wpList_copy_rd _ rfl (.tmp 34) (.tmp 37) 24 rfl w.heap.size 3 i0 (.int .i64 0) 8 Try.underlying24 hi hz0 hz1 hz2 rfl w.heap.size (by rfl) (by exact heap_alloc_new w _) (Nat.le_refl _) a zs.length _ zs (by rfl) (HRd.out.below ((Below.refl _ _).alloc (Nat.le_refl _) _) (Nat.le_refl _)) (by omega) (by decide) ?_; intro v1 w1 o1 g1; have b1 := Below.grown_at ((Below.refl w.heap.size w).alloc (Nat.le_refl _) (.cells #[] 3)) g1 (by simp) (Nat.le_refl _); have y1 := b1.size; clear g1) | (at_builtin; refine wpList_app1_at rfl (.tmp 39) (.tmp 41) 24 rfl w.heap.size 3 i0 (.int .i64 0) 1 8 Try.underlying24 hi hz0 hz1 hz2 rfl (by decide) v1 _ _ (by rfl) o1 #[.int .i64 n] rfl (by simp [Value.oneCell']) w1.heap.size rfl (by rfl) (by (try rw [List.length_take]); unfold maxLen; omega) (by (try rw [List.length_take]); omega) (by omega) ?_; intro v2 w2 o2 g2 _; have b2 := b1.trans (Below.of_grown (B := w.heap.size) g2 (by omega) (fun kk hk => (o1.lt kk hk).1)); have y2 := b2.size; clear g2) | (at_builtin; refine wpList_app_rd (B := w.heap.size) (k := .i64) _ rfl (.tmp 43) (.tmp 46) 24 rfl w.heap.size 3 i0 (.int .i64 0) 8 Try.underlying24 hi hz0 hz1 hz2 rfl v2 _ _ (by rfl) o2 _ 0 _ [] (by rfl) (.inl ⟨rfl, _, _, rfl⟩) (by (try rw [List.length_take]); omega) (by decide) (by omega) ?_; intro v3 w3 o3 g3 _))
        have b3 := b2.trans (Below.of_grown (B := w.heap.size) g3 (by omega) (fun kk hk => (o2.lt kk hk).1))
        have O3 := Lib.hid o3
        clear o1 o2 o3 g3 b1 b2
        go_ret
        refine ⟨_, rfl, ?_, b3⟩
        rw [HI.out]
        refine own_base (base := w.heap.size) ?_ hb
        have o := O3.out
        simpa using o
      · go_wp2_with (first | (at_builtin; refine wpList_copy_rd _ rfl (.tmp 34) (.tmp 37) 24 rfl w.heap.size 3 i0 (.int .i64 0) 8 Try.underlying24 hi hz0 hz1 hz2 rfl w.heap.size (by rfl) (by exact heap_alloc_new w _) (Nat.le_refl _) a zs.length _ zs (by rfl) (HRd.out.below ((Below.refl _ _).alloc (Nat.le_refl _) _) (Nat.le_refl _)) (by omega) (by decide) ?_; intro v1 w1 o1 g1; have b1 := Below.grown_at ((Below.refl w.heap.size w).alloc (Nat.le_refl _) (.cells #[] 3)) g1 (by simp) (Nat.le_refl _); have y1 := b1.size; clear g1) | (at_builtin; refine wpList_app1_at rfl (.tmp 39) (.tmp 41) 24 rfl w.heap.size 3 i0 (.int .i64 0) 1 8 Try.underlying24 hi hz0 hz1 hz2 rfl (by decide) v1 _ _ (by rfl) o1 #[.int .i64 n] rfl (by simp [Value.oneCell']) w1.heap.size rfl (by rfl) (by (try rw [List.length_take]); unfold maxLen; omega) (by (try rw [List.length_take]); omega) (by omega) ?_; intro v2 w2 o2 g2 _; have b2 := b1.trans (Below.of_grown (B := w.heap.size) g2 (by omega) (fun kk hk => (o1.lt kk hk).1)); have y2 := b2.size; clear g2) | (at_builtin; refine wpList_app_rd (B := w.heap.size) (k := .i64) _ rfl (.tmp 43) (.tmp 46) 24 rfl w.heap.size 3 i0 (.int .i64 0) 8 Try.underlying24 hi hz0 hz1 hz2 rfl v2 _ _ (by rfl) o2 _ 0 _ [] (by rfl) (.inl ⟨rfl, _, _, rfl⟩) (by (try rw [List.length_take]); omega) (by decide) (by omega) ?_; intro v3 w3 o3 g3 _))
        have b3 := b2.trans (Below.of_grown (B := w.heap.size) g3 (by omega) (fun kk hk => (o2.lt kk hk).1))
        have O3 := Lib.hid o3
        clear o1 o2 o3 g3 b1 b2
        go_ret
        refine ⟨_, rfl, ?_, b3⟩
        rw [HI.out]
        refine own_base (base := w.heap.size) ?_ hb
        have o := O3.out
        simpa using o

set_option maxHeartbeats 1600000 in
set_option maxRecDepth 100000 in
theorem sReach_any {B : Nat} (v vr : Value) (ws rs : List Int) (h b n : Int) (w : World) (hr : Rd B .i64 w v ws) (hw : intsOk ws) (hlen : ws.length ≤ 4294967296) (hq : Rd B .i64 w vr rs) (hrl : rs.length ≤ 4294967296)
    (bh : -9223372036854775808 ≤ h ∧ h ≤ 9223372036854775807) (ib : -9223372036854775808 ≤ b ∧ b ≤ 9223372036854775807) (bn : -9223372036854775808 ≤ n ∧ n ≤ 9223372036854775807) :
    Calls Try.prog 28 #[.agg #[v, .int .i64 h, .int .i64 b, .int .i64 n], vr] w fun e w' => ∃ u, e = .returned u ∧ w'.ownsRow w.heap.size 3 1 u (reachOf ws h b n rs).length ((reachOf ws h b n rs).map (Value.int .i64)) ∧ Below w.heap.size w w' := by
  have hO := fun (W : World) (hb : Below w.heap.size w W) => l18Right_any v vr ws rs h b n W (hr.below' hb) hw hlen (hq.below' hb) hrl bh ib bn
  cases hok : rightOf ws h b n rs
  · obtain ⟨a, cap, rfl⟩ := hr.form
    obtain ⟨qa, qc, rfl⟩ := hq.form
    rw [hok] at hO
    have HO := Lib.hid hO
    have HF := Lib.hid (reachOf_not hok)
    clear hO hr hw bh ib bn hok hq
    go_enter Try.func28, Try.ntmps28
    go_wp2_with fail
    generalize hx : (w.alloc _).alloc _ = x
    have ho : x.ownsRow w.heap.size 3 1 (.slice (some ⟨w.heap.size + 1, 0, none⟩) 0 0) 0 [] := by
      rw [← hx]
      exact own_empty (by simp) (by omega)
    obtain ⟨bb, k1, _, _⟩ := alloc_box2 hx
    clear hx
    refine (HO.out _ bb).mono ?_
    rintro e w1 ⟨rfl, b1⟩
    replace k1 := k1.below b1 k1.1
    replace ho := own_below ho b1 (own_lt ho)
    replace bb := bb.trans (b1.mono bb.size)
    clear b1
    have OO := Lib.hid ho
    clear ho
    go_wp2
    go_ret
    exact ⟨_, rfl, by rw [HF.out]; exact OO.out, bb⟩
  · rw [hok] at hO
    have HO := Lib.hid hO
    have HF := reachOf_yes hok
    obtain ⟨h', b', n', ps, rfl, rfl, rfl, hR, hx⟩ := Right.ofR hok
    have hM := fun (W : World) (hb : Below w.heap.size w W) => l18Order_any v vr ws rs h' b' n' ps W hR (hr.below' hb) hw (hq.below' hb) hx hrl
    have hol : (orderOf ws rs).length ≤ 6000 := Nat.le_trans (hR.ord_len (order_ok hR hx)) hR.n_le.2
    obtain ⟨o, ho⟩ : ∃ o, orderOf ws rs = o := ⟨_, rfl⟩
    rw [ho] at hM HF hol
    have HM := Lib.hid hM
    have HFF := Lib.hid HF
    obtain ⟨a, cap, rfl⟩ := hr.form
    obtain ⟨qa, qc, rfl⟩ := hq.form
    clear hO hr hw bh ib bn hok hq hM ho HF hR hx
    go_enter Try.func28, Try.ntmps28
    go_wp2_with fail
    generalize hx : (w.alloc _).alloc _ = x
    have ho : x.ownsRow w.heap.size 3 1 (.slice (some ⟨w.heap.size + 1, 0, none⟩) 0 0) 0 [] := by
      rw [← hx]
      exact own_empty (by simp) (by omega)
    obtain ⟨bb, k1, _, _⟩ := alloc_box2 hx
    clear hx
    refine (HO.out _ bb).mono ?_
    rintro e w1 ⟨rfl, b1⟩
    replace k1 := k1.below b1 k1.1
    replace ho := own_below ho b1 (own_lt ho)
    replace bb := bb.trans (b1.mono bb.size)
    clear b1
    have ck1 := k1.2.1
    have yk1 := k1.1
    go_wp2_with fail
    refine (HM.out _ bb).mono ?_
    rintro e w2 ⟨ov, rfl, oo, b2⟩
    clear ck1 yk1
    replace k1 := k1.below b2 k1.1
    replace ho := own_below ho b2 (own_lt ho)
    replace bb := bb.trans (b2.mono bb.size)
    clear b2
    obtain ⟨oa, oc, rfl⟩ := own_form oo
    have RO := Lib.hid (Rd.of_nums oo)
    have OO := Lib.hid ho
    have BB := Lib.hid bb
    clear oo k1 ho bb
    go_wp2
    go_loopw [5, 7] (fun u i wr => ∃ k : Nat, k ≤ o.length ∧ i = .int .i64 k ∧ wr.ownsRow w.heap.size 3 1 u (insAll ((nums o).take k)).length ((insAll ((nums o).take k)).map (Value.int .i64)) ∧
      Rd w2.heap.size .i64 wr (.slice oa o.length oc) (nums o) ∧ w2.heap.size ≤ wr.heap.size ∧ Below w.heap.size w wr) (fun _ i _ => o.length - (intOf i).toNat)
    case atStart => exact ⟨0, Nat.zero_le _, rfl, OO.out, RO.out, Nat.le_refl _, BB.out⟩
    case round =>
      clear OO RO BB
      obtain ⟨k, hk, rfl, ho, ro, z2, bb⟩ := hrel
      by_cases hlt : k < o.length
      · rcases ro with ⟨h', _⟩ | ⟨bl, off, c', hv, hbg, hbs, hbm, hc⟩
        · have := congrArg List.length h'; rw [nums_len, List.length_nil] at this; omega
        have ro : Rd w2.heap.size .i64 wr (.slice oa o.length oc) (nums o) := .inr ⟨bl, off, c', hv, hbg, hbs, hbm, hc⟩
        have c0 := hc k (by rw [nums_len]; exact hlt)
        rw [nums_len] at hv
        cases hv
        have hst := insAll_step (nums o) k (by rw [nums_len]; exact hlt)
        have hil := insAll_take_len (nums o) k
        rw [nums_len] at hil
        obtain ⟨y, hy⟩ : ∃ y, (nums o).getD k 0 = y := ⟨_, rfl⟩
        rw [hy] at c0 hst
        obtain ⟨zs, hzs⟩ : ∃ zs, insAll ((nums o).take k) = zs := ⟨_, rfl⟩
        rw [hzs] at hst ho hil
        obtain ⟨ua, uc, rfl⟩ := own_form ho
        have HC := Lib.hid (l5Insert_any _ zs y wr ho bb.size (by omega))
        have HST := Lib.hid hst
        have hki : (k : Int) < (o.length : Int) := by omega
        have RO := Lib.hid ro
        have BB := Lib.hid bb
        clear hst hy hzs hc ho ro bb
        go_wp2_with fail
        refine HC.out.mono ?_
        rintro e w4 ⟨u4, rfl, o4, b4⟩
        have R4 := Lib.hid (RO.out.below b4 z2)
        have B4 := Lib.hid (BB.out.trans (b4.mono BB.out.size))
        have z4 : w2.heap.size ≤ w4.heap.size := Nat.le_trans z2 b4.size
        rw [← HST.out] at o4
        have O4 := Lib.hid o4
        clear o4 b4 RO BB z2 c0
        go_wp2
        go_roundw
        case rel => exact ⟨k + 1, hlt, by go_num, O4.out, R4.out, z4, B4.out⟩
        case measure => simp [intOf]; omega
      · obtain rfl : k = o.length := by omega
        rw [List.take_of_length_le (by rw [nums_len]; exact Nat.le_refl _), ← HFF.out] at ho
        have OO := Lib.hid ho
        have BB := Lib.hid bb
        clear ho ro bb
        go_wp2
        go_ret
        exact ⟨_, rfl, OO.out, BB.out⟩

end Go.Proofs.Ytmcoidnonmmpjaa
