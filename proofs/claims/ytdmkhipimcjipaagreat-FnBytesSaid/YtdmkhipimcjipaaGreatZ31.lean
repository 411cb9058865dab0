/- Parts of the proof of FnBytes. -/
import Derived.Test.YtdmkhipimcjipaaGreatZ30
import Derived.Test.YtdmkhipimcjipaaGreatZ16
import Derived.Test.YtdmkhipimcjipaaGreatZ17
import Derived.Test.YtdmkhipimcjipaaGreatZ18
import Derived.Test.YtdmkhipimcjipaaGreatZ13
import Derived.Test.YtdmkhipimcjipaaGreatZ14
import Derived.Deep.DeepCutAuto
import Derived.Deep.CutRange
set_option linter.unusedVariables false
set_option linter.unusedSimpArgs false
namespace Go.Proofs.YtdmkhipimcjipaaGreat
open Go.RowKit
set_option linter.unusedVariables false
set_option linter.unusedSimpArgs false
theorem put_back (x : Int) : (putNum x).length = 0 ∨ getNum (putNum x ++ [7]) 0 = (x, ((putNum x).length : Int), true) := by
  cases h : inB x 0 2147483647
  · left
    unfold putNum
    rw [h]
    rfl
  · right
    have := (numAt_put (b := putNum x ++ [7]) (i := 0) (n := x) (C := [7]) (by simp) h).1
    simpa using this
theorem get_back {b : List Int} (hb : bytesOk b) {i y e : Int} (h : getNum b i = (y, e, true)) : ∃ p q : Nat, i = p ∧ e = q ∧ p < q ∧ q ≤ b.length ∧ putNum y = (b.drop p).take (q - p) := by
  rcases getNum_cases hb i with ⟨n, j, h1, h2⟩ | ⟨n, j, h1, _⟩
  · rw [h] at h1
    simp only [Prod.mk.injEq] at h1
    obtain ⟨rfl, rfl, _⟩ := h1
    obtain ⟨p, q, a1, a2, a3, a4, a5, _⟩ := numAt_some hb h2
    exact ⟨p, q, a1, a2, a3, a4, a5⟩
  · rw [h] at h1
    simp at h1
theorem get_bound {b : List Int} (hb : bytesOk b) (i : Int) : ∃ n e f, getNum b i = (n, e, f) := ⟨_, _, _, rfl⟩
theorem funsOf_in {b : List Int} (hb : bytesOk b) {fs : List F2} (h : funsOf b = some fs) : funsBytes fs = b ∧ (∀ x ∈ fs, fnIn x) ∧ fs.length ≤ 60 := by
  have hbf := bytes_funsOf hb h
  have hok : funsOk fs = true := by
    unfold funsOf at h
    split at h
    · cases h
    · split at h
      · rename_i hc
        cases h
        exact hc.2
      · cases h
  obtain ⟨_, h2⟩ := funsOk_put hok
  refine ⟨hbf, fun x hx => ?_, (funsOk_parts hok).1.2⟩
  obtain ⟨k1, _, k3⟩ := h2 x hx
  have k1 := inB_true.1 k1
  refine ⟨by omega, fun o ho => ?_⟩
  obtain ⟨j1, j2, j3⟩ := k3 o ho
  have j1 := inB_true.1 j1
  have j2 := inB_true.1 j2
  have j3 := inB_true.1 j3
  unfold o3In
  omega
theorem rd_seg {B : Nat} {k : IntKind} {w : World} {v : Value} {zs : List Int} (h : Rd B k w v zs) {p q : Nat} (hp : p < q) (hq : q ≤ zs.length) : ∃ b off c, v = .slice (some ⟨b, off, none⟩) zs.length c ∧ zs.length ≤ c ∧
    ∀ W, Below w.heap.size w W → Rd W.heap.size k W (.slice (some ⟨b, off + p, none⟩) (q - p) (c - p)) ((zs.drop p).take (q - p)) := by
  rcases h with ⟨rfl, _⟩ | ⟨b, off, c, rfl, h2, h3, h4, h5⟩
  · simp at hq; omega
  · have hl : ((zs.drop p).take (q - p)).length = q - p := by rw [List.length_take, List.length_drop]; omega
    refine ⟨b, off, c, rfl, h4.2, fun W hb => .inr ⟨b, off + p, c - p, by rw [hl], Nat.lt_of_lt_of_le h3 hb.size, Nat.lt_of_lt_of_le h3 hb.size, by rw [hl]; omega, fun j hj => ?_⟩⟩
    rw [hl] at hj
    rw [hb.cell (p := ⟨b, off + p + j, none⟩) h3, show off + p + j = off + (p + j) from by omega, h5 (p + j) (by omega), List.getD_eq_getElem?_getD, List.getD_eq_getElem?_getD, List.getElem?_take, if_pos hj, List.getElem?_drop]
set_option maxHeartbeats 8000000 in
set_option maxRecDepth 100000 in
theorem walkFnBytes (w : World) (u0 : Value) (z0 : List Int) (r0 : Rd w.heap.size .u8 w u0 z0) (i0 : bytesIn z0) :
    Calls Tryz.prog 3 #[u0] w fun e w' => e = .returned (.bool true) ∧ Below w.heap.size w w' := by
  by_cases hbig : 1048576 < z0.length
  · have HB := Lib.hid (big_any u0 z0 w r0)
    rw [decide_eq_true hbig] at HB
    obtain ⟨a0, c0, rfl⟩ := r0.form
    clear r0 i0
    go_enter Tryz.func3, Tryz.ntmps3
    go_wp2_with fail
    refine HB.out.mono ?_
    rintro e w1 ⟨rfl, rfl⟩
    go_wp2
    go_ret
    exact ⟨rfl, Below.refl _ _⟩
  · obtain ⟨ti, hi, hz0, hz1, hz2⟩ := info_parts Tryz.infoU8
    have HB := Lib.hid (big_any u0 z0 w r0)
    rw [decide_eq_false hbig] at HB
    have HP := Lib.hid (DrawPutNum_any u0 z0 w r0 i0 (by omega))
    have HG := Lib.hid (fun (W : World) (hb : Below w.heap.size w W) => DrawGetNum_any u0 z0 W (r0.below' hb) i0 (by omega))
    have HF := Lib.hid (fun (W : World) (hb : Below w.heap.size w W) => DrawFunsBytes_any u0 z0 W (r0.below' hb) i0 (by omega))
    have HO := Lib.hid (fun (W : World) (hb : Below w.heap.size w W) => DrawFunsOf_any u0 z0 W (r0.below' hb) i0 (by omega))
    obtain ⟨a0, c0, rfl⟩ := r0.form
    clear r0 i0
    go_enter Tryz.func3, Tryz.ntmps3
    go_wp2_with fail
    refine HB.out.mono ?_
    rintro e w1 ⟨rfl, rfl⟩
    clear HB hbig
    go_wp2_with fail
    refine HP.out.mono ?_
    rintro e w1 ⟨⟨x, rfl, hx⟩, bb⟩
    have z1 := bb.size
    have hpl := putNum_len5 x
    have hpb : ByB (putNum x) := putNum_b x
    have HPB := Lib.hid (put_back x)
    have HSP := Lib.hid (fun (W : World) => sPutNum_any x W)
    have HIP := Lib.hid (iPutNum_any x w1)
    unfold i64In at hx
    obtain ⟨pn, hpn⟩ : ∃ pn, putNum x = pn := ⟨_, rfl⟩
    rw [hpn] at hpl hpb HPB HSP HIP
    clear hpn HP
    go_wp2_with fail
    refine HIP.out.mono ?_
    rintro e w2 ⟨bv, rfl, ob, b2⟩
    obtain ⟨ba, bc, rfl⟩ := own_form ob
    replace bb := bb.trans (b2.mono bb.size)
    have z2 := b2.size
    clear b2 HIP
    go_wp2_with (at_builtin; generalize hxx : World.alloc _ _ = s1; refine wpList_app_rd (B := s1.heap.size) (k := .u8) _ rfl (.tmp 32) (.tmp 33) 22 rfl w2.heap.size 5 ti (.int .u8 0) 1 Tryz.underlying22 hi hz0 hz1 hz2 rfl (.slice (some ⟨w2.heap.size, 0, none⟩) 0 0) 0 [] (by rfl) (own_made hxx (Nat.le_refl _) 0 rfl (by unfold maxLen; omega)) ba pn.length bc pn (by rfl) (Rd.of_own (own_below ob (Bx.alloc hxx).1 (own_lt ob))) (by omega) (by decide) (Bx.alloc hxx).1.size ?_)
    intro v3 s2 o3 g3 alt3
    replace o3 : s2.ownsRow w2.heap.size 5 1 v3 pn.length (pn.map (Value.int .u8)) := by simpa using o3
    have b3 : Below w2.heap.size w2 s2 := (Bx.alloc hxx).1.trans (Below.of_grown (B := w2.heap.size) g3 (Bx.alloc hxx).1.size (fun k hk => by cases hk; exact Nat.le_refl _))
    clear hxx g3 alt3
    have zs2 := b3.size
    go_wp2_with (at_builtin; generalize hxx : World.alloc _ _ = s3; refine wpList_app_rd (B := s3.heap.size) (k := .u8) _ rfl (.tmp 34) (.tmp 35) 22 rfl w2.heap.size 5 ti (.int .u8 0) 1 Tryz.underlying22 hi hz0 hz1 hz2 rfl v3 pn.length (pn.map (Value.int .u8)) (by rfl) (own_below o3 (Bx.alloc hxx).1 (own_lt o3)) (some ⟨s2.heap.size, 0, none⟩) 1 1 [7] (by rfl) (Rd.of_own (zs := [7]) (own_made (base := w2.heap.size) hxx zs2 1 rfl (by unfold maxLen; omega))) (by omega) (by decide) (Nat.le_trans zs2 (Bx.alloc hxx).1.size) ?_)
    intro v4 s4 o4 g4 alt4
    have b4 : Below w2.heap.size w2 s4 := (b3.trans ((Bx.alloc hxx).1.mono zs2)).trans (Below.of_grown (B := w2.heap.size) g4 (Nat.le_trans zs2 (Bx.alloc hxx).1.size) (fun k hk => (o3.lt k hk).1))
    clear hxx g4 alt4 b3
    have hb7 : ByB (pn ++ [7]) := hpb.append (fun y hy => by simp only [List.mem_cons, List.not_mem_nil, or_false] at hy; omega)
    obtain ⟨v4a, v4c, rfl⟩ := own_form o4
    have o4' : s4.ownsRow w2.heap.size 5 1 (.slice v4a (pn.length + 1) v4c) (pn ++ [7]).length ((pn ++ [7]).map (Value.int .u8)) := by rw [List.length_append, List.map_append]; exact o4
    have hl7 : (pn ++ [7]).length ≤ 4294967296 := by rw [List.length_append]; simp; omega
    have HGN := Lib.hid (iGetNum_any (.slice v4a (pn.length + 1) v4c) (pn ++ [7]) 0 s4 (Rd.of_own o4') hb7.ok (by omega) (by omega) hl7)
    obtain ⟨n1, e1, f1, hg1⟩ := get_bound hb7.ok 0
    rw [hg1] at HGN HPB
    clear o3 o4 o4' hl7 hb7 hg1
    go_wp2_with fail
    refine HGN.out.mono ?_
    rintro e s5 ⟨rfl, st5⟩
    have b5 := b4.trans (st5.below _)
    have zs5 := b5.size
    replace ob := own_below ob b5 (own_lt ob)
    replace bb := bb.trans (b5.mono bb.size)
    clear st5 b5 b4 HGN
    unfold trip
    dsimp only
    go_wp2_with fail
    go_cut [66] from 41 to 66 (fun s66 W => s66 = .bool false ∧ Below s5.heap.size s5 W)
    case first =>
      refine wp_region_held_drew (S := (fun W => (convert 22 9 (.slice ba pn.length bc)).run Tryz.prog W = .ok (.string (strOfNums pn)) W)) (by kernel_rfl) (by first | (dsimp only; exact conv_rd (Rd.of_own ob)) | (exact conv_rd (Rd.of_own ob))) (fun hHeld => ?_)
      refine tkH (i := 0) ?_
      refine tkH (i := 1) ?_
      refine tkH (i := 2) ?_
      generalize hxd : s5.drew = y5 at hHeld
      have hd : Below s5.heap.size s5 y5 := by rw [← hxd]; exact (Below.refl _ _).drew
      have ob5 := own_below ob hd (own_lt ob)
      clear hxd
      refine rdH (i := 3) (fun K hK => ?_)
      go_simp
      refine (HSP.out y5).mono ?_
      rintro e y6 ⟨v6, rfl, o6, b6⟩
      obtain ⟨v6a, v6c, rfl⟩ := own_form o6
      have ob6 := own_below ob5 b6 (own_lt ob5)
      refine bkH hK (by first | (dsimp only; exact conv_rd (Rd.of_own ob6)) | (exact conv_rd (Rd.of_own ob6))) (fun hHeld => ?_)
      clear hK K
      have BB6 := Lib.hid (hd.trans (b6.mono hd.size))
      have hH2 : (fun W => (convert 22 9 (.slice ba pn.length bc)).run Tryz.prog W = .ok (.string (strOfNums pn)) W ∧ (convert 22 9 (.slice v6a pn.length v6c)).run Tryz.prog W = .ok (.string (strOfNums pn)) W) y6 := ⟨conv_rd (Rd.of_own ob6), conv_rd (Rd.of_own o6)⟩
      clear hHeld o6 b6 ob5 ob6 hd
      refine wpAnyH_up (S' := (fun W => (convert 22 9 (.slice ba pn.length bc)).run Tryz.prog W = .ok (.string (strOfNums pn)) W ∧ (convert 22 9 (.slice v6a pn.length v6c)).run Tryz.prog W = .ok (.string (strOfNums pn)) W)) (fun W h => h.1) _ _ _ _ ?_
      refine tkH (i := 4) ?_
      refine tkH (i := 5) ?_
      refine tkH (i := 6) ?_
      by_cases hp : 0 < pn.length
      · have hq := HPB.out.resolve_left (by omega)
        simp only [Prod.mk.injEq] at hq
        obtain ⟨rfl, rfl, rfl⟩ := hq
        have hpi : (0 : Int) < (pn.length : Int) := by omega
        refine tkH (i := 7) ?_
        refine tkH (i := 8) ?_
        refine tkH (i := 9) ?_
        refine tkH (i := 10) ?_
        refine tkH (i := 11) ?_
        refine tkH (i := 12) ?_
        refine tkH (i := 13) ?_
        refine tkH (i := 14) ?_
        refine tkH (i := 15) ?_
        refine tkH (i := 16) ?_
        refine tkH (i := 17) ?_
        refine tkH (i := 18) ?_
        refine tkH (i := 19) ?_
        refine tkH (i := 20) ?_
        refine tkH (i := 21) ?_
        refine tkH (i := 22) ?_
        refine tkH (i := 23) ?_
        refine tkH (i := 24) ?_
        refine tkH (i := 25) ?_
        refine wpAnyH_done (by kernel_rfl) ?_ _
        go_wp2_with fail
        go_meet
        exact ⟨rfl, BB6.out⟩
      · have hpi : ¬ (0 : Int) < (pn.length : Int) := by omega
        refine tkH (i := 7) ?_
        refine tkH (i := 8) ?_
        refine tkH (i := 9) ?_
        refine tkH (i := 10) ?_
        refine skH (i := 11) ?_
        refine skH (i := 12) ?_
        refine skH (i := 13) ?_
        refine skH (i := 14) ?_
        refine skH (i := 15) ?_
        refine skH (i := 16) ?_
        refine skH (i := 17) ?_
        refine skH (i := 18) ?_
        refine skH (i := 19) ?_
        refine skH (i := 20) ?_
        refine skH (i := 21) ?_
        refine skH (i := 22) ?_
        refine skH (i := 23) ?_
        refine tkH (i := 24) ?_
        refine tkH (i := 25) ?_
        refine wpAnyH_done (by kernel_rfl) ?_ _
        go_wp2_with fail
        go_meet
        exact ⟨rfl, BB6.out⟩
    case rest =>
      obtain ⟨rfl, bc6⟩ := hcut
      replace bb := bb.trans (bc6.mono bb.size)
      clear ob bc6 HPB HSP hpl hpb
      go_wp2_with fail
      refine (HG.out _ bb).mono ?_
      rintro e q1 ⟨⟨rv, ys, k, rfl, rr, yb, yl, ki⟩, b7⟩
      replace bb := bb.trans (b7.mono bb.size)
      clear b7 HG
      unfold i64In at ki
      have HGI := Lib.hid (iGetNum_any rv ys k q1 rr yb.ok ki.1 ki.2 (by omega))
      have HGS := Lib.hid (fun (W : World) (hb : Below q1.heap.size q1 W) => sGetNum_any rv ys k W (rr.below' hb) yb.ok ki.1 ki.2 (by omega))
      have HBK := Lib.hid (fun (y e : Int) (h : getNum ys k = (y, e, true)) => get_back yb.ok h)
      obtain ⟨n2, e2, f2, hg2⟩ := get_bound yb.ok k
      have HG2 := Lib.hid hg2
      rw [hg2] at HGI HGS
      have RR := Lib.hid rr
      obtain ⟨ra, rc, rfl⟩ := rr.form
      clear rr hg2
      go_wp2_with fail
      refine HGI.out.mono ?_
      rintro e q2 ⟨rfl, st⟩
      have b8 := st.below q1.heap.size
      clear st HGI
      unfold trip
      dsimp only
      go_wp2_with fail
      refine (HGS.out _ b8).mono ?_
      rintro e q3 ⟨rfl, st⟩
      have b9 := b8.trans (st.below q1.heap.size)
      clear st HGS b8
      unfold trip
      dsimp only
      go_wp2_with fail
      go_cut [107] from 86 to 107 (fun s107 W => s107 = .bool false ∧ Below q3.heap.size q3 W)
      case first =>
        cases f2 with
        | false =>
          refine wp_region_held_drew (S := (fun _ => True)) (by kernel_rfl) (by first | (dsimp only; trivial) | (trivial)) (fun hHeld => ?_)
          refine tkH (i := 0) ?_
          refine tkH (i := 1) ?_
          refine tkH (i := 2) ?_
          refine tkH (i := 3) ?_
          refine tkH (i := 4) ?_
          refine tkH (i := 5) ?_
          refine tkH (i := 6) ?_
          refine tkH (i := 7) ?_
          refine tkH (i := 8) ?_
          refine tkH (i := 9) ?_
          refine tkH (i := 10) ?_
          refine skH (i := 11) ?_
          refine skH (i := 12) ?_
          refine skH (i := 13) ?_
          refine skH (i := 14) ?_
          refine skH (i := 15) ?_
          refine skH (i := 16) ?_
          refine skH (i := 17) ?_
          refine skH (i := 18) ?_
          refine skH (i := 19) ?_
          refine tkH (i := 20) ?_
          refine tkH (i := 21) ?_
          refine wpAnyH_done (by kernel_rfl) ?_ _
          go_wp2_with fail
          go_meet
          exact ⟨rfl, (Below.refl _ _).drew⟩
        | true =>
          obtain ⟨p, q, hkp, heq, hpq, hql, hput⟩ := HBK.out n2 e2 HG2.out
          subst hkp
          subst heq
          obtain ⟨rb, off, rc', hv, hcap, RS⟩ := rd_seg RR.out hpq hql
          cases hv
          have HPN := Lib.hid (fun (W : World) => iPutNum_any n2 W)
          rw [hput] at HPN
          obtain ⟨sg, hsg⟩ : ∃ sg, (ys.drop p).take (q - p) = sg := ⟨_, rfl⟩
          rw [hsg] at HPN RS
          have R3 := Lib.hid (fun (W : World) (hb : Below q3.heap.size q3 W) => RS W (b9.trans (hb.mono b9.size)))
          have hpqi : (p : Int) ≤ (q : Int) := by omega
          have hqc : (q : Int) ≤ (rc : Int) := by omega
          have hpc : ¬ rc = p := by omega
          clear RS hput hsg HG2 HBK
          refine wp_region_held_drew (S := (fun W => (convert 22 9 (.slice (some ⟨rb, off + p, none⟩) (q - p) (rc - p))).run Tryz.prog W = .ok (.string (strOfNums sg)) W)) (by kernel_rfl) (by first | (dsimp only; exact conv_rd (R3.out q3 (Below.refl _ _))) | (exact conv_rd (R3.out q3 (Below.refl _ _)))) (fun hHeld => ?_)
          refine tkH (i := 0) ?_
          refine tkH (i := 1) ?_
          refine tkH (i := 2) ?_
          refine tkH (i := 3) ?_
          refine tkH (i := 4) ?_
          refine tkH (i := 5) ?_
          refine tkH (i := 6) ?_
          refine tkH (i := 7) ?_
          refine tkH (i := 8) ?_
          refine tkH (i := 9) ?_
          refine tkH (i := 10) ?_
          refine tkH (i := 11) ?_
          refine tkH (i := 14) ?_
          refine tkH (i := 15) ?_
          refine tkH (i := 16) ?_
          refine tkH (i := 17) ?_
          refine tkH (i := 18) ?_
          generalize hxd : q3.drew = y5 at hHeld
          have hd : Below q3.heap.size q3 y5 := by rw [← hxd]; exact (Below.refl _ _).drew
          clear hxd
          refine rdH (i := 12) (fun K hK => ?_)
          go_simp
          refine (HPN.out y5).mono ?_
          rintro e y6 ⟨v6, rfl, o6, b6⟩
          obtain ⟨v6a, v6c, rfl⟩ := own_form o6
          refine bkH hK (by first | (dsimp only; exact conv_rd (R3.out y6 (hd.trans (b6.mono hd.size)))) | (exact conv_rd (R3.out y6 (hd.trans (b6.mono hd.size))))) (fun hHeld => ?_)
          clear hK K
          have BB6 := Lib.hid (hd.trans (b6.mono hd.size))
          have hH2 : (fun W => (convert 22 9 (.slice (some ⟨rb, off + p, none⟩) (q - p) (rc - p))).run Tryz.prog W = .ok (.string (strOfNums sg)) W ∧ (convert 22 9 (.slice v6a sg.length v6c)).run Tryz.prog W = .ok (.string (strOfNums sg)) W) y6 := ⟨conv_rd (R3.out y6 BB6.out), conv_rd (Rd.of_own o6)⟩
          clear hHeld o6 b6 hd
          refine wpAnyH_up (S' := (fun W => (convert 22 9 (.slice (some ⟨rb, off + p, none⟩) (q - p) (rc - p))).run Tryz.prog W = .ok (.string (strOfNums sg)) W ∧ (convert 22 9 (.slice v6a sg.length v6c)).run Tryz.prog W = .ok (.string (strOfNums sg)) W)) (fun W h => h.1) _ _ _ _ ?_
          refine tkH (i := 13) ?_
          refine tkH (i := 19) ?_
          refine tkH (i := 20) ?_
          refine tkH (i := 21) ?_
          refine wpAnyH_done (by kernel_rfl) ?_ _
          go_wp2_with fail
          go_meet
          exact ⟨rfl, BB6.out⟩
      case rest =>
        obtain ⟨rfl, bc9⟩ := hcut
        replace bb := bb.trans ((b9.trans (bc9.mono b9.size)).mono bb.size)
        clear b9 bc9 HBK HG2 RR
        go_wp2_with fail
        refine (HF.out _ bb).mono ?_
        rintro e t1 ⟨⟨lv, fs, rfl, rf, fi⟩, b10⟩
        replace bb := bb.trans (b10.mono bb.size)
        clear b10 HF
        have hl60 := fi.len
        have hcl := bytes_small fi
        have hcb := funsBytes_b fs
        have hpos := funsBytes_pos fs
        have HIB := Lib.hid (iFunsBytes_any lv fs t1 rf fi.fn (by omega))
        have HSB := Lib.hid (fun (W : World) (hb : Below t1.heap.size t1 W) => sFunsBytes_any lv fs W (rf.below' hb) fi.fn (by omega))
        have HOK := Lib.hid (fun (W : World) (hb : Below t1.heap.size t1 W) => iFunsOk_any lv fs W (rf.below' hb) fi.fn (by omega))
        have RF := Lib.hid (fun (W : World) (hb : Below t1.heap.size t1 W) => rf.below' hb)
        have HBF := Lib.hid (fun (h : funsOk fs = true) => funsOf_bytes h)
        obtain ⟨okb, hokb⟩ : ∃ okb, funsOk fs = okb := ⟨_, rfl⟩
        obtain ⟨cs, hcs⟩ : ∃ cs, funsBytes fs = cs := ⟨_, rfl⟩
        rw [hokb] at HOK HBF hpos
        rw [hcs] at HIB HSB hcl hcb hpos HBF
        obtain ⟨la, lc, rfl⟩ := rf.form
        clear rf fi hokb hcs
        go_wp2_with fail
        refine HIB.out.mono ?_
        rintro e t2 ⟨cvv, rfl, oc, b11⟩
        obtain ⟨ca, cc, rfl⟩ := own_form oc
        have zt2 := b11.size
        have B11 := Lib.hid b11
        clear b11 HIB
        go_wp2_with fail
        go_cut [125] from 112 to 125 (fun s125 W => s125 = .bool false ∧ Below t2.heap.size t2 W)
        case first =>
          refine wp_region_held_drew (S := (fun W => (convert 22 9 (.slice ca cs.length cc)).run Tryz.prog W = .ok (.string (strOfNums cs)) W)) (by kernel_rfl) (by first | (dsimp only; exact conv_rd (Rd.of_own oc)) | (exact conv_rd (Rd.of_own oc))) (fun hHeld => ?_)
          refine tkH (i := 0) ?_
          refine tkH (i := 1) ?_
          refine tkH (i := 2) ?_
          generalize hxd : t2.drew = y5 at hHeld
          have hd : Below t2.heap.size t2 y5 := by rw [← hxd]; exact (Below.refl _ _).drew
          have oc5 := own_below oc hd (own_lt oc)
          have bt5 := B11.out.trans (hd.mono zt2)
          clear hxd
          refine rdH (i := 3) (fun K hK => ?_)
          go_simp
          refine (HSB.out y5 bt5).mono ?_
          rintro e y6 ⟨v6, rfl, o6, b6⟩
          obtain ⟨v6a, v6c, rfl⟩ := own_form o6
          have oc6 := own_below oc5 b6 (own_lt oc5)
          refine bkH hK (by first | (dsimp only; exact conv_rd (Rd.of_own oc6)) | (exact conv_rd (Rd.of_own oc6))) (fun hHeld => ?_)
          clear hK K
          have bd6 := hd.trans (b6.mono hd.size)
          have bt6 := B11.out.trans (bd6.mono zt2)
          have hH2 : (fun W => (convert 22 9 (.slice ca cs.length cc)).run Tryz.prog W = .ok (.string (strOfNums cs)) W ∧ (convert 22 9 (.slice v6a cs.length v6c)).run Tryz.prog W = .ok (.string (strOfNums cs)) W) y6 := ⟨conv_rd (Rd.of_own oc6), conv_rd (Rd.of_own o6)⟩
          clear hHeld b6 oc5 hd bt5
          refine wpAnyH_up (S' := (fun W => (convert 22 9 (.slice ca cs.length cc)).run Tryz.prog W = .ok (.string (strOfNums cs)) W ∧ (convert 22 9 (.slice v6a cs.length v6c)).run Tryz.prog W = .ok (.string (strOfNums cs)) W)) (fun W h => h.1) _ _ _ _ ?_
          cases okb with
          | true =>
            have hp := hpos.2 rfl
            have hpi : (0 : Int) < (cs.length : Int) := by omega
            refine tkH (i := 4) ?_
            refine tkH (i := 5) ?_
            refine tkH (i := 6) ?_
            refine tkH (i := 7) ?_
            refine tkH (i := 8) ?_
            refine tkH (i := 9) ?_
            refine tkH (i := 10) ?_
            refine rdH (i := 11) (fun K hK => ?_)
            go_simp
            refine (HOK.out y6 bt6).mono ?_
            rintro e y7 ⟨rfl, b7⟩
            refine bkH hK (by first | (dsimp only; exact ⟨conv_rd (Rd.of_own (own_below oc6 b7 (own_lt oc6))), conv_rd (Rd.of_own (own_below o6 b7 (own_lt o6)))⟩) | (exact ⟨conv_rd (Rd.of_own (own_below oc6 b7 (own_lt oc6))), conv_rd (Rd.of_own (own_below o6 b7 (own_lt o6)))⟩)) (fun hHeld => ?_)
            clear hK K
            have BB7 := Lib.hid (bd6.trans (b7.mono bd6.size))
            clear b7 bt6 oc6 o6 hH2
            refine tkH (i := 12) ?_
            refine tkH (i := 13) ?_
            refine wpAnyH_done (by kernel_rfl) ?_ _
            go_wp2_with fail
            go_meet
            exact ⟨rfl, BB7.out⟩
          | false =>
            have hpi : ¬ (0 : Int) < (cs.length : Int) := by
              intro h
              have := hpos.1 (by omega)
              cases this
            refine tkH (i := 4) ?_
            refine tkH (i := 5) ?_
            refine tkH (i := 6) ?_
            refine tkH (i := 7) ?_
            refine tkH (i := 8) ?_
            refine tkH (i := 9) ?_
            refine tkH (i := 10) ?_
            refine rdH (i := 11) (fun K hK => ?_)
            go_simp
            refine (HOK.out y6 bt6).mono ?_
            rintro e y7 ⟨rfl, b7⟩
            refine bkH hK (by first | (dsimp only; exact ⟨conv_rd (Rd.of_own (own_below oc6 b7 (own_lt oc6))), conv_rd (Rd.of_own (own_below o6 b7 (own_lt o6)))⟩) | (exact ⟨conv_rd (Rd.of_own (own_below oc6 b7 (own_lt oc6))), conv_rd (Rd.of_own (own_below o6 b7 (own_lt o6)))⟩)) (fun hHeld => ?_)
            clear hK K
            have BB7 := Lib.hid (bd6.trans (b7.mono bd6.size))
            clear b7 bt6 oc6 o6 hH2
            refine tkH (i := 12) ?_
            refine tkH (i := 13) ?_
            refine wpAnyH_done (by kernel_rfl) ?_ _
            go_wp2_with fail
            go_meet
            exact ⟨rfl, BB7.out⟩
        case rest =>
          obtain ⟨rfl, b12⟩ := hcut
          have b13 := B11.out.trans (b12.mono zt2)
          replace bb := bb.trans (b13.mono bb.size)
          have oc' := own_below oc b12 (own_lt oc)
          clear oc b12 HSB HOK
          go_upto_if 128 with fail
          go_cut [18, 19] from 129 to 142 (fun s18 s19 W => Below wc.heap.size wc W)
          case first =>
            cases okb with
            | true =>
              have hp := hpos.2 rfl
              have hpi : (0 : Int) < (cs.length : Int) := by omega
              have HFO := Lib.hid (iFunsOf_any _ cs wc (Rd.of_own oc') hcb.ok (by omega))
              unfold FunsOfPost at HFO
              rw [HBF.out rfl] at HFO
              clear oc'
              go_wp2_with fail
              refine HFO.out.mono ?_
              rintro e t3 ⟨v3', rfl, of3, b14⟩
              replace of3 : OwnF wc.heap.size t3 v3' fs := of3
              have HSM := Lib.hid (sameFuns_same _ _ fs t3 (RdF.of_own of3) (RF.out t3 (b13.trans (b14.mono b13.size))))
              have B14 := Lib.hid b14
              obtain ⟨va3, vc3, rfl⟩ := of3.form
              clear of3 b14 HFO
              go_wp2_with fail
              refine HSM.out.mono ?_
              rintro e t4 ⟨rfl, b15⟩
              have B15 := Lib.hid (B14.out.trans (b15.mono B14.out.size))
              clear b15 HSM
              go_wp2_with fail
              go_meet
              exact B15.out
            | false =>
              have hpi : ¬ (0 : Int) < (cs.length : Int) := by
                intro h
                have := hpos.1 (by omega)
                cases this
              go_wp2_with fail
              go_meet
              exact Below.refl _ _
          case rest =>
            replace bb := bb.trans (hcut.mono bb.size)
            clear hcut oc' RF HBF
            go_wp2_with fail
            refine (HO.out _ bb).mono ?_
            rintro e d1 ⟨⟨dv, ds, rfl, rd, db, dl⟩, b16⟩
            replace bb := bb.trans (b16.mono bb.size)
            clear b16 HO
            have HI1 := Lib.hid (iFunsOf_any dv ds d1 rd db.ok (by omega))
            have HS1 := Lib.hid (fun (W : World) (hb : Below d1.heap.size d1 W) => sFunsOf_any dv ds W (rd.below' hb) db.ok (by omega))
            unfold FunsOfPost at HI1 HS1
            have HIN := Lib.hid (fun (gs : List F2) (h : funsOf ds = some gs) => funsOf_in db.ok h)
            have RD := Lib.hid (fun (W : World) (hb : Below d1.heap.size d1 W) => rd.below' hb)
            obtain ⟨da, dc, rfl⟩ := rd.form
            obtain ⟨ro, hro⟩ : ∃ ro, funsOf ds = ro := ⟨_, rfl⟩
            rw [hro] at HI1 HS1 HIN
            clear rd hro
            go_wp2_with fail
            refine HI1.out.mono ?_
            rintro e d2 ⟨qv, rfl, qo, b17⟩
            have B17 := Lib.hid b17
            clear b17 HI1
            obtain ⟨qa, qc, rfl⟩ := qo.form
            go_wp2_with fail
            refine (HS1.out d2 B17.out).mono ?_
            rintro e d3 ⟨qv', rfl, _, b18⟩
            have B18 := Lib.hid (B17.out.trans (b18.mono B17.out.size))
            have qo' := qo.below b18
            clear b18 HS1 qo B17
            cases ro with
            | none =>
              have hz : (((none : Option (List F2)).getD []).length : Int) = 0 := rfl
              go_wp2_with fail
              refine wp_region_held_drew (S := (fun _ => True)) (by kernel_rfl) (by first | (dsimp only; trivial) | (trivial)) (fun hHeld => ?_)
              refine tkH (i := 0) ?_
              refine tkH (i := 1) ?_
              refine tkH (i := 2) ?_
              refine tkH (i := 3) ?_
              refine tkH (i := 4) ?_
              refine tkH (i := 5) ?_
              refine tkH (i := 6) ?_
              refine tkH (i := 7) ?_
              refine tkH (i := 8) ?_
              refine tkH (i := 9) ?_
              refine tkH (i := 10) ?_
              refine tkH (i := 11) ?_
              refine skH (i := 12) ?_
              refine skH (i := 13) ?_
              refine skH (i := 14) ?_
              refine skH (i := 15) ?_
              refine skH (i := 16) ?_
              refine skH (i := 17) ?_
              refine skH (i := 18) ?_
              refine skH (i := 19) ?_
              refine skH (i := 20) ?_
              refine tkH (i := 21) ?_
              refine tkH (i := 22) ?_
              refine tkH (i := 23) ?_
              refine wpAnyH_done (by kernel_rfl) ?_ _
              go_wp2
              go_ret
              exact ⟨rfl, bb.trans ((B18.out.trans (Below.refl _ _).drew).mono bb.size)⟩
            | some gs =>
              obtain ⟨hgb, hgi, hgl⟩ := HIN.out gs rfl
              have qr : RdF d3.heap.size d3 (.slice qa gs.length qc) gs := RdF.of_own qo'
              have HFB := Lib.hid (fun (W : World) (hb : Below d3.heap.size d3 W) => iFunsBytes_any (.slice qa gs.length qc) gs W (qr.below' hb) hgi (by omega))
              rw [hgb] at HFB
              clear qo' qr hgb hgi HIN
              go_wp2_with fail
              refine wp_region_held_drew (S := (fun W => (convert 22 9 (.slice da ds.length dc)).run Tryz.prog W = .ok (.string (strOfNums ds)) W)) (by kernel_rfl) (by first | (dsimp only; exact conv_rd (RD.out d3 B18.out)) | (exact conv_rd (RD.out d3 B18.out))) (fun hHeld => ?_)
              refine tkH (i := 0) ?_
              refine tkH (i := 1) ?_
              refine tkH (i := 2) ?_
              refine tkH (i := 3) ?_
              refine tkH (i := 4) ?_
              refine tkH (i := 5) ?_
              refine tkH (i := 6) ?_
              refine skH (i := 7) ?_
              refine skH (i := 8) ?_
              refine skH (i := 9) ?_
              refine tkH (i := 10) ?_
              refine tkH (i := 11) ?_
              refine tkH (i := 12) ?_
              refine tkH (i := 13) ?_
              refine tkH (i := 14) ?_
              refine tkH (i := 17) ?_
              refine tkH (i := 18) ?_
              generalize hxd : d3.drew = y5 at hHeld
              have hd : Below d3.heap.size d3 y5 := by rw [← hxd]; exact (Below.refl _ _).drew
              clear hxd
              refine rdH (i := 15) (fun K hK => ?_)
              go_simp
              refine (HFB.out y5 hd).mono ?_
              rintro e y6 ⟨v6, rfl, o6, b6⟩
              obtain ⟨v6a, v6c, rfl⟩ := own_form o6
              refine bkH hK (by first | (dsimp only; exact conv_rd (RD.out y6 (B18.out.trans ((hd.trans (b6.mono hd.size)).mono B18.out.size)))) | (exact conv_rd (RD.out y6 (B18.out.trans ((hd.trans (b6.mono hd.size)).mono B18.out.size))))) (fun hHeld => ?_)
              clear hK K
              have BD6 := Lib.hid (B18.out.trans ((hd.trans (b6.mono hd.size)).mono B18.out.size))
              have hH2 : (fun W => (convert 22 9 (.slice da ds.length dc)).run Tryz.prog W = .ok (.string (strOfNums ds)) W ∧ (convert 22 9 (.slice v6a ds.length v6c)).run Tryz.prog W = .ok (.string (strOfNums ds)) W) y6 := ⟨conv_rd (RD.out y6 BD6.out), conv_rd (Rd.of_own o6)⟩
              clear hHeld o6 b6 hd
              refine wpAnyH_up (S' := (fun W => (convert 22 9 (.slice da ds.length dc)).run Tryz.prog W = .ok (.string (strOfNums ds)) W ∧ (convert 22 9 (.slice v6a ds.length v6c)).run Tryz.prog W = .ok (.string (strOfNums ds)) W)) (fun W h => h.1) _ _ _ _ ?_
              refine tkH (i := 16) ?_
              refine tkH (i := 19) ?_
              refine tkH (i := 20) ?_
              refine tkH (i := 21) ?_
              refine tkH (i := 22) ?_
              refine tkH (i := 23) ?_
              refine wpAnyH_done (by kernel_rfl) ?_ _
              go_wp2
              go_ret
              exact ⟨rfl, bb.trans (BD6.out.mono bb.size)⟩
end Go.Proofs.YtdmkhipimcjipaaGreat
