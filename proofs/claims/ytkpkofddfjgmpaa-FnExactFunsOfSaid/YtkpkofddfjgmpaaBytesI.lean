/- FunsBytes (impl). -/
import Derived.Test.YtkpkofddfjgmpaaAcc
import Derived.Test.YtkpkofddfjgmpaaFunsOkI
import Derived.IntWalk
namespace Go.Proofs.Ytkpkofddfjgmpaa
open Go.RowKit
set_option linter.unusedVariables false
set_option linter.unusedSimpArgs false

set_option maxHeartbeats 6400000 in
set_option maxRecDepth 100000 in
theorem iFunsBytes_any {B : Nat} (v : Value) (fs : List F2) (w : World) (hr : RdF B w v fs) (hf : ∀ x ∈ fs, fnIn x) (hlen : fs.length ≤ 4294967296) :
    Calls Try.prog 41 #[v] w fun e w' => ∃ v, e = .returned v ∧ w'.ownsRow w.heap.size 5 1 v (funsBytes fs).length ((funsBytes fs).map (Value.int .u8)) ∧ Below w.heap.size w w' := by
  obtain ⟨i0, hi, hz0, hz1, hz2⟩ := info_parts Try.infoU8
  have hfn := iFunsOk_any v fs w hr hf hlen
  have HR := Lib.hid hr
  obtain ⟨a, cap, rfl⟩ := hr.form
  cases hok : funsOk fs
  · have he : funsBytes fs = [] := by unfold funsBytes; rw [hok]; rfl
    rw [he]
    rw [hok] at hfn
    have HFN := Lib.hid hfn
    clear hr hf hfn hok he
    go_enter Try.func41, Try.ntmps41
    go_wp2_with fail
    refine (HFN.out).mono ?_
    rintro e w1 ⟨rfl, b1⟩
    have hbz := b1.size
    go_wp2
    go_ret
    exact ⟨_, rfl, World.ownsRow_nil _ _ _ _, b1⟩
  · have he : funsBytes fs = funsRaw fs := by unfold funsBytes; rw [hok]; rfl
    rw [he]
    rw [hok] at hfn
    have HFN := Lib.hid hfn
    obtain ⟨hl, hh, hops⟩ := funsOk_parts hok
    have HH := Lib.hid hh
    have HN := Lib.hid (fun (i : Nat) (hi : i < fs.length) (o : O3) (ho : o ∈ fs[i].os) => opOk_n hh hl.2 hi (hops i hi o ho))
    obtain ⟨hl0, hl1⟩ := hl
    clear hr hf hfn hok he hh hops
    go_enter Try.func41, Try.ntmps41
    go_wp2_with fail
    refine (HFN.out).mono ?_
    rintro e w1 ⟨rfl, bb⟩
    go_wp2_with fail
    refine (iPutNum_any _ _).mono ?_
    rintro e w2 ⟨v, rfl, o2, b2⟩
    have hA : Acc w w2 v (putNum (fs.length : Int)) 5 := ⟨own_base o2 bb.size, bb.trans (b2.mono bb.size), putNum_len5 _⟩
    clear o2 b2 bb
    go_wp2
    go_loopw [3, 16] (fun s i wr => ∃ (k : Nat) (v : Value) (xs : List Int), k ≤ fs.length ∧ i = .int .i64 k ∧ s = v ∧ Hid (xs = putNum (fs.length : Int) ++ (fs.take k).flatMap fnBytes) ∧ Acc w wr v xs (5 + 45010 * k)) (fun s i _ => fs.length - (intOf i).toNat)
    case atStart => exact ⟨0, v, _, Nat.zero_le _, rfl, rfl, Lib.hid (by simp), hA⟩
    case round =>
      clear hA
      obtain ⟨k, v, xs, hk, rfl, rfl, HXS, hA⟩ := hrel
      by_cases hlt : k < fs.length
      · obtain ⟨b', off', cap', lv', hs, _, hbs', _, c0, c1, ro⟩ := HR.out.at_ hlt
        cases hs
        obtain ⟨la', lc', rfl⟩ := ro.form
        have hkl : (k : Int) < (fs.length : Int) := by omega
        have hxx := HH.out _ (List.getElem_mem hlt)
        have hnn := HN.out k hlt
        obtain ⟨x, hx⟩ : ∃ x, fs[k] = x := ⟨_, rfl⟩
        rw [hx] at c0 c1 hxx ro
        simp only [hx] at hnn
        have HNN := Lib.hid hnn
        have HX := Lib.hid hx
        have RO := Lib.hid (fun (W : World) (h : Below w.heap.size w W) => RdE.below' ro h)
        have HC0 := Lib.hid (fun (W : World) (h : Below w.heap.size w W) => (h.cell (p := ⟨b', off' + k * 2, none⟩) hbs').trans c0)
        have HC1 := Lib.hid (fun (W : World) (h : Below w.heap.size w W) => (h.cell (p := ⟨b', off' + k * 2 + 1, none⟩) hbs').trans c1)
        obtain ⟨⟨hf0, hf1⟩, hn0, hn1⟩ := hxx
        clear hx hnn ro c0 c1
        have c0 := HC0.out _ hA.low
        have c1 := HC1.out _ hA.low
        go_wp2_with fail
        have hne := hA.ne
        generalize hz : wr.alloc _ = z
        obtain ⟨bz, kx⟩ := Bx.alloc hz
        clear hz c0 c1
        replace hA := hA.below bz
        clear bz
        have ck := kx.2.1
        have yk := kx.1
        go_wp2_with fail
        refine (iPutNum_any _ _).mono ?_
        rintro e w3 ⟨u, rfl, o3, b3⟩
        clear ck yk
        replace hA := hA.below b3
        replace kx := kx.below b3 kx.1
        obtain ⟨ua, ucap, rfl⟩ := own_form o3
        go_wp2_with (at_builtin; refine wpList_num rfl (.tmp 20) (.tmp 23) 22 rfl i0 (.int .u8 0) 1 Try.underlying22 hi hz0 hz1 hz2 rfl (by decide) _ _ _ (by rfl) hA (by omega) _ _ _ _ (by rfl) o3 ?_)
        intro v9 w4 hA2 kk
        replace hne := (kk _ _ kx hne)
        replace kx := hne.1
        replace hne := hne.2
        replace hA := hA2
        clear hA2 kk o3 b3
        have ck := kx.2.1
        have yk := kx.1
        go_wp2_with fail
        refine (iPutNum_any _ _).mono ?_
        rintro e w3 ⟨u, rfl, o3, b3⟩
        clear ck yk
        replace hA := hA.below b3
        replace kx := kx.below b3 kx.1
        obtain ⟨ua, ucap, rfl⟩ := own_form o3
        go_wp2_with (at_builtin; refine wpList_num rfl (.tmp 25) (.tmp 29) 22 rfl i0 (.int .u8 0) 1 Try.underlying22 hi hz0 hz1 hz2 rfl (by decide) _ _ _ (by rfl) hA (by omega) _ _ _ _ (by rfl) o3 ?_)
        intro v9 w4 hA2 kk
        replace hne := (kk _ _ kx hne)
        replace kx := hne.1
        replace hne := hne.2
        replace hA := hA2
        clear hA2 kk o3 b3
        have ck := kx.2.1
        have yk := kx.1
        go_wp2
        clear ck yk
        clear kx hne
        obtain ⟨P0, hP0⟩ : ∃ l, xs ++ (putNum x.f ++ putNum (x.os.length : Int)) = l := ⟨_, rfl⟩
        rw [hP0] at hA
        have HP0 := Lib.hid hP0
        clear hP0
        go_loopw [3, 34] (fun s i wy => ∃ (t : Nat) (v : Value) (ys : List Int), t ≤ x.os.length ∧ i = .int .i64 t ∧ s = v ∧ Hid (ys = P0 ++ (x.os.take t).flatMap opBytes) ∧ Acc w wy v ys (15 + 45010 * k + 15 * t)) (fun s i _ => x.os.length - (intOf i).toNat)
        case atStart => exact ⟨0, _, _, Nat.zero_le _, rfl, rfl, Lib.hid (by simp), hA.mono (by omega)⟩
        case round =>
          clear hA
          obtain ⟨t, v9, ys, ht, rfl, rfl, HYS, hA⟩ := hrel
          by_cases htl : t < x.os.length
          · obtain ⟨bo, offo, capo, hso, _, hbso, _, d0, d1, d2⟩ := RdO.at_ (RO.out _ hA.low) htl
            cases hso
            have htt : (t : Int) < (x.os.length : Int) := by omega
            have hoo := HNN.out _ (List.getElem_mem htl)
            obtain ⟨o, ho⟩ : ∃ o, x.os[t] = o := ⟨_, rfl⟩
            rw [ho] at d0 d1 d2 hoo
            have HO := Lib.hid ho
            obtain ⟨⟨o1, o2⟩, ⟨o3, o4⟩, o5, o6⟩ := hoo
            clear ho
            go_wp2_with fail
            have hne := hA.ne
            generalize hz : wr.alloc _ = z
            obtain ⟨bz, kx⟩ := Bx.alloc hz
            clear hz d0 d1 d2
            replace hA := hA.below bz
            clear bz
            have ck := kx.2.1
            have yk := kx.1
            go_wp2_with fail
            refine (iPutNum_any _ _).mono ?_
            rintro e w3 ⟨u, rfl, o3, b3⟩
            clear ck yk
            replace hA := hA.below b3
            replace kx := kx.below b3 kx.1
            obtain ⟨ua, ucap, rfl⟩ := own_form o3
            go_wp2_with (at_builtin; refine wpList_num rfl (.tmp 38) (.tmp 41) 22 rfl i0 (.int .u8 0) 1 Try.underlying22 hi hz0 hz1 hz2 rfl (by decide) _ _ _ (by rfl) hA (by omega) _ _ _ _ (by rfl) o3 ?_)
            intro v9 w4 hA2 kk
            replace hne := (kk _ _ kx hne)
            replace kx := hne.1
            replace hne := hne.2
            replace hA := hA2
            clear hA2 kk o3 b3
            have ck := kx.2.1
            have yk := kx.1
            go_wp2_with fail
            refine (iPutNum_any _ _).mono ?_
            rintro e w3 ⟨u, rfl, o3, b3⟩
            clear ck yk
            replace hA := hA.below b3
            replace kx := kx.below b3 kx.1
            obtain ⟨ua, ucap, rfl⟩ := own_form o3
            go_wp2_with (at_builtin; refine wpList_num rfl (.tmp 43) (.tmp 47) 22 rfl i0 (.int .u8 0) 1 Try.underlying22 hi hz0 hz1 hz2 rfl (by decide) _ _ _ (by rfl) hA (by omega) _ _ _ _ (by rfl) o3 ?_)
            intro v9 w4 hA2 kk
            replace hne := (kk _ _ kx hne)
            replace kx := hne.1
            replace hne := hne.2
            replace hA := hA2
            clear hA2 kk o3 b3
            have ck := kx.2.1
            have yk := kx.1
            go_wp2_with fail
            refine (iPutNum_any _ _).mono ?_
            rintro e w3 ⟨u, rfl, o3, b3⟩
            clear ck yk
            replace hA := hA.below b3
            replace kx := kx.below b3 kx.1
            obtain ⟨ua, ucap, rfl⟩ := own_form o3
            go_wp2_with (at_builtin; refine wpList_num rfl (.tmp 49) (.tmp 52) 22 rfl i0 (.int .u8 0) 1 Try.underlying22 hi hz0 hz1 hz2 rfl (by decide) _ _ _ (by rfl) hA (by omega) _ _ _ _ (by rfl) o3 ?_)
            intro v9 w4 hA2 kk
            replace hne := (kk _ _ kx hne)
            replace kx := hne.1
            replace hne := hne.2
            replace hA := hA2
            clear hA2 kk o3 b3
            obtain ⟨zs, hzs⟩ : ∃ l, ys ++ (putNum o.c ++ (putNum (o.n + 1073741824) ++ putNum o.m)) = l := ⟨_, rfl⟩
            rw [hzs] at hA
            have HZ := Lib.hid (show zs = P0 ++ (x.os.take (t + 1)).flatMap opBytes by rw [flatMap_snoc _ _ htl, ← hzs, HYS.out, HO.out]; unfold opBytes; simp only [List.append_assoc])
            clear hzs HYS kx hne
            go_wp2
            go_roundw
            case rel => exact ⟨t + 1, _, zs, htl, by go_num, rfl, HZ, hA.mono (by omega)⟩
            case measure => simp [intOf]; omega
          · obtain rfl : t = x.os.length := by omega
            have HZ := Lib.hid (show ys = putNum (fs.length : Int) ++ (fs.take (k + 1)).flatMap fnBytes by rw [flatMap_snoc _ _ hlt, HYS.out, ← HP0.out, HXS.out, HX.out, List.take_of_length_le (Nat.le_refl _)]; unfold fnBytes; simp only [List.append_assoc])
            clear HYS
            go_wp2
            go_roundw
            case rel => exact ⟨k + 1, _, ys, hlt, by go_num, rfl, HZ, hA.mono (by omega)⟩
            case measure => simp [intOf]; omega
      · obtain rfl : k = fs.length := by omega
        have HE := Lib.hid (show xs = funsRaw fs by rw [HXS.out, List.take_of_length_le (Nat.le_refl _)]; rfl)
        clear HXS
        go_wp2
        go_ret
        refine ⟨_, rfl, ?_, hA.low⟩
        rw [← HE.out]
        exact hA.own

end Go.Proofs.Ytkpkofddfjgmpaa
