/- Parts of the proof of FnBytes. -/
import Derived.Test.YtdmkhipimcjipaaGreatZ16
import Derived.Test.YtdmkhipimcjipaaGreatZ17
import Derived.IntWalk
import Derived.Test.YtdmkhipimcjipaaGreatZ26
import Derived.Test.YtdmkhipimcjipaaGreatZ27
import Derived.Test.YtdmkhipimcjipaaGreatZ28
set_option linter.unusedVariables false
set_option linter.unusedSimpArgs false
section
namespace Go.Proofs.YtdmkhipimcjipaaGreat
open Go.RowKit
set_option linter.unusedVariables false
set_option linter.unusedSimpArgs false
set_option maxHeartbeats 6400000 in
set_option maxRecDepth 100000 in
theorem iFunsBytes_any {B : Nat} (v : Value) (fs : List F2) (w : World) (hr : RdF B w v fs) (hf : ∀ x ∈ fs, fnIn x) (hlen : fs.length ≤ 4294967296) :
    Calls Tryz.prog 12 #[v] w fun e w' => ∃ v, e = .returned v ∧ w'.ownsRow w.heap.size 5 1 v (funsBytes fs).length ((funsBytes fs).map (Value.int .u8)) ∧ Below w.heap.size w w' := by
  obtain ⟨i0, hi, hz0, hz1, hz2⟩ := info_parts Tryz.infoU8
  have hfn := iFunsOk_any v fs w hr hf hlen
  have HR := Lib.hid hr
  obtain ⟨a, cap, rfl⟩ := hr.form
  cases hok : funsOk fs
  · have he : funsBytes fs = [] := by unfold funsBytes; rw [hok]; rfl
    rw [he]
    rw [hok] at hfn
    have HFN := Lib.hid hfn
    clear hr hf hfn hok he
    go_enter Tryz.func12, Tryz.ntmps12
    go_wp2_with fail
    refine (HFN.out).mono ?_
    rintro e w1 ⟨rfl, b1⟩
    have hbz := b1.size
    go_wp2
    go_ret
    exact ⟨_, rfl, World.ownsRow_nil _ _ _ _, b1⟩
  · have he : funsBytes fs = funsRaw fs := by unfold funsBytes; rw [hok]; rfl
    rw [he]
    rw [hok] at hfn
    have HFN := Lib.hid hfn
    obtain ⟨hl, hh, hops⟩ := funsOk_parts hok
    have HH := Lib.hid hh
    have HN := Lib.hid (fun (i : Nat) (hi : i < fs.length) (o : O3) (ho : o ∈ fs[i].os) => opOk_n hh hl.2 hi (hops i hi o ho))
    obtain ⟨hl0, hl1⟩ := hl
    clear hr hf hfn hok he hh hops
    go_enter Tryz.func12, Tryz.ntmps12
    go_wp2_with fail
    refine (HFN.out).mono ?_
    rintro e w1 ⟨rfl, bb⟩
    go_wp2_with fail
    refine (iPutNum_any _ _).mono ?_
    rintro e w2 ⟨v, rfl, o2, b2⟩
    have hA : Acc w w2 v (putNum (fs.length : Int)) 5 := ⟨own_base o2 bb.size, bb.trans (b2.mono bb.size), putNum_len5 _⟩
    clear o2 b2 bb
    go_wp2
    go_loopw [3, 16] (fun s i wr => ∃ (k : Nat) (v : Value) (xs : List Int), k ≤ fs.length ∧ i = .int .i64 k ∧ s = v ∧ Hid (xs = putNum (fs.length : Int) ++ (fs.take k).flatMap fnBytes) ∧ Acc w wr v xs (5 + 45010 * k)) (fun s i _ => fs.length - (intOf i).toNat)
    case atStart => exact ⟨0, v, _, Nat.zero_le _, rfl, rfl, Lib.hid (by simp), hA⟩
    case round =>
      clear hA
      obtain ⟨k, v, xs, hk, rfl, rfl, HXS, hA⟩ := hrel
      by_cases hlt : k < fs.length
      · obtain ⟨b', off', cap', lv', hs, _, hbs', _, c0, c1, ro⟩ := HR.out.at_ hlt
        cases hs
        obtain ⟨la', lc', rfl⟩ := ro.form
        have hkl : (k : Int) < (fs.length : Int) := by omega
        have hxx := HH.out _ (List.getElem_mem hlt)
        have hnn := HN.out k hlt
        obtain ⟨x, hx⟩ : ∃ x, fs[k] = x := ⟨_, rfl⟩
        rw [hx] at c0 c1 hxx ro
        simp only [hx] at hnn
        have HNN := Lib.hid hnn
        have HX := Lib.hid hx
        have RO := Lib.hid (fun (W : World) (h : Below w.heap.size w W) => RdE.below' ro h)
        have HC0 := Lib.hid (fun (W : World) (h : Below w.heap.size w W) => (h.cell (p := ⟨b', off' + k * 2, none⟩) hbs').trans c0)
        have HC1 := Lib.hid (fun (W : World) (h : Below w.heap.size w W) => (h.cell (p := ⟨b', off' + k * 2 + 1, none⟩) hbs').trans c1)
        obtain ⟨⟨hf0, hf1⟩, hn0, hn1⟩ := hxx
        clear hx hnn ro c0 c1
        have c0 := HC0.out _ hA.low
        have c1 := HC1.out _ hA.low
        go_wp2_with fail
        have hne := hA.ne
        generalize hz : wr.alloc _ = z
        obtain ⟨bz, kx⟩ := Bx.alloc hz
        clear hz c0 c1
        replace hA := hA.below bz
        clear bz
        have ck := kx.2.1
        have yk := kx.1
        go_wp2_with fail
        refine (iPutNum_any _ _).mono ?_
        rintro e w3 ⟨u, rfl, o3, b3⟩
        clear ck yk
        replace hA := hA.below b3
        replace kx := kx.below b3 kx.1
        obtain ⟨ua, ucap, rfl⟩ := own_form o3
        go_wp2_with (at_builtin; refine wpList_num rfl (.tmp 20) (.tmp 23) 22 rfl i0 (.int .u8 0) 1 Tryz.underlying22 hi hz0 hz1 hz2 rfl (by decide) _ _ _ (by rfl) hA (by omega) _ _ _ _ (by rfl) o3 ?_)
        intro v9 w4 hA2 kk
        replace hne := (kk _ _ kx hne)
        replace kx := hne.1
        replace hne := hne.2
        replace hA := hA2
        clear hA2 kk o3 b3
        have ck := kx.2.1
        have yk := kx.1
        go_wp2_with fail
        refine (iPutNum_any _ _).mono ?_
        rintro e w3 ⟨u, rfl, o3, b3⟩
        clear ck yk
        replace hA := hA.below b3
        replace kx := kx.below b3 kx.1
        obtain ⟨ua, ucap, rfl⟩ := own_form o3
        go_wp2_with (at_builtin; refine wpList_num rfl (.tmp 25) (.tmp 29) 22 rfl i0 (.int .u8 0) 1 Tryz.underlying22 hi hz0 hz1 hz2 rfl (by decide) _ _ _ (by rfl) hA (by omega) _ _ _ _ (by rfl) o3 ?_)
        intro v9 w4 hA2 kk
        replace hne := (kk _ _ kx hne)
        replace kx := hne.1
        replace hne := hne.2
        replace hA := hA2
        clear hA2 kk o3 b3
        have ck := kx.2.1
        have yk := kx.1
        go_wp2
        clear ck yk
        clear kx hne
        obtain ⟨P0, hP0⟩ : ∃ l, xs ++ (putNum x.f ++ putNum (x.os.length : Int)) = l := ⟨_, rfl⟩
        rw [hP0] at hA
        have HP0 := Lib.hid hP0
        clear hP0
        go_loopw [3, 34] (fun s i wy => ∃ (t : Nat) (v : Value) (ys : List Int), t ≤ x.os.length ∧ i = .int .i64 t ∧ s = v ∧ Hid (ys = P0 ++ (x.os.take t).flatMap opBytes) ∧ Acc w wy v ys (15 + 45010 * k + 15 * t)) (fun s i _ => x.os.length - (intOf i).toNat)
        case atStart => exact ⟨0, _, _, Nat.zero_le _, rfl, rfl, Lib.hid (by simp), hA.mono (by omega)⟩
        case round =>
          clear hA
          obtain ⟨t, v9, ys, ht, rfl, rfl, HYS, hA⟩ := hrel
          by_cases htl : t < x.os.length
          · obtain ⟨bo, offo, capo, hso, _, hbso, _, d0, d1, d2⟩ := RdO.at_ (RO.out _ hA.low) htl
            cases hso
            have htt : (t : Int) < (x.os.length : Int) := by omega
            have hoo := HNN.out _ (List.getElem_mem htl)
            obtain ⟨o, ho⟩ : ∃ o, x.os[t] = o := ⟨_, rfl⟩
            rw [ho] at d0 d1 d2 hoo
            have HO := Lib.hid ho
            obtain ⟨⟨o1, o2⟩, ⟨o3, o4⟩, o5, o6⟩ := hoo
            clear ho
            go_wp2_with fail
            have hne := hA.ne
            generalize hz : wr.alloc _ = z
            obtain ⟨bz, kx⟩ := Bx.alloc hz
            clear hz d0 d1 d2
            replace hA := hA.below bz
            clear bz
            have ck := kx.2.1
            have yk := kx.1
            go_wp2_with fail
            refine (iPutNum_any _ _).mono ?_
            rintro e w3 ⟨u, rfl, o3, b3⟩
            clear ck yk
            replace hA := hA.below b3
            replace kx := kx.below b3 kx.1
            obtain ⟨ua, ucap, rfl⟩ := own_form o3
            go_wp2_with (at_builtin; refine wpList_num rfl (.tmp 38) (.tmp 41) 22 rfl i0 (.int .u8 0) 1 Tryz.underlying22 hi hz0 hz1 hz2 rfl (by decide) _ _ _ (by rfl) hA (by omega) _ _ _ _ (by rfl) o3 ?_)
            intro v9 w4 hA2 kk
            replace hne := (kk _ _ kx hne)
            replace kx := hne.1
            replace hne := hne.2
            replace hA := hA2
            clear hA2 kk o3 b3
            have ck := kx.2.1
            have yk := kx.1
            go_wp2_with fail
            refine (iPutNum_any _ _).mono ?_
            rintro e w3 ⟨u, rfl, o3, b3⟩
            clear ck yk
            replace hA := hA.below b3
            replace kx := kx.below b3 kx.1
            obtain ⟨ua, ucap, rfl⟩ := own_form o3
            go_wp2_with (at_builtin; refine wpList_num rfl (.tmp 43) (.tmp 47) 22 rfl i0 (.int .u8 0) 1 Tryz.underlying22 hi hz0 hz1 hz2 rfl (by decide) _ _ _ (by rfl) hA (by omega) _ _ _ _ (by rfl) o3 ?_)
            intro v9 w4 hA2 kk
            replace hne := (kk _ _ kx hne)
            replace kx := hne.1
            replace hne := hne.2
            replace hA := hA2
            clear hA2 kk o3 b3
            have ck := kx.2.1
            have yk := kx.1
            go_wp2_with fail
            refine (iPutNum_any _ _).mono ?_
            rintro e w3 ⟨u, rfl, o3, b3⟩
            clear ck yk
            replace hA := hA.below b3
            replace kx := kx.below b3 kx.1
            obtain ⟨ua, ucap, rfl⟩ := own_form o3
            go_wp2_with (at_builtin; refine wpList_num rfl (.tmp 49) (.tmp 52) 22 rfl i0 (.int .u8 0) 1 Tryz.underlying22 hi hz0 hz1 hz2 rfl (by decide) _ _ _ (by rfl) hA (by omega) _ _ _ _ (by rfl) o3 ?_)
            intro v9 w4 hA2 kk
            replace hne := (kk _ _ kx hne)
            replace kx := hne.1
            replace hne := hne.2
            replace hA := hA2
            clear hA2 kk o3 b3
            obtain ⟨zs, hzs⟩ : ∃ l, ys ++ (putNum o.c ++ (putNum (o.n + 1073741824) ++ putNum o.m)) = l := ⟨_, rfl⟩
            rw [hzs] at hA
            have HZ := Lib.hid (show zs = P0 ++ (x.os.take (t + 1)).flatMap opBytes by rw [flatMap_snoc _ _ htl, ← hzs, HYS.out, HO.out]; unfold opBytes; simp only [List.append_assoc])
            clear hzs HYS kx hne
            go_wp2
            go_roundw
            case rel => exact ⟨t + 1, _, zs, htl, by go_num, rfl, HZ, hA.mono (by omega)⟩
            case measure => simp [intOf]; omega
          · obtain rfl : t = x.os.length := by omega
            have HZ := Lib.hid (show ys = putNum (fs.length : Int) ++ (fs.take (k + 1)).flatMap fnBytes by rw [flatMap_snoc _ _ hlt, HYS.out, ← HP0.out, HXS.out, HX.out, List.take_of_length_le (Nat.le_refl _)]; unfold fnBytes; simp only [List.append_assoc])
            clear HYS
            go_wp2
            go_roundw
            case rel => exact ⟨k + 1, _, ys, hlt, by go_num, rfl, HZ, hA.mono (by omega)⟩
            case measure => simp [intOf]; omega
      · obtain rfl : k = fs.length := by omega
        have HE := Lib.hid (show xs = funsRaw fs by rw [HXS.out, List.take_of_length_le (Nat.le_refl _)]; rfl)
        clear HXS
        go_wp2
        go_ret
        refine ⟨_, rfl, ?_, hA.low⟩
        rw [← HE.out]
        exact hA.own
end Go.Proofs.YtdmkhipimcjipaaGreat
end
section
namespace Go.Proofs.YtdmkhipimcjipaaGreat
open Go.RowKit
set_option linter.unusedVariables false
set_option linter.unusedSimpArgs false
def FunsOfPost (w : World) (b : List Int) (e : Ending) (w' : World) : Prop :=
  ∃ v', e = .returned (.tuple #[v', .bool (funsOf b).isSome]) ∧ OwnF w.heap.size w' v' ((funsOf b).getD []) ∧ Below w.heap.size w w'
theorem ownF_nil {base : Nat} {w : World} {v : Value} (h : w.ownsRow base 48 2 v 0 []) : OwnF base w v [] :=
  ⟨[], h, rfl, fun j a => absurd a (by simp), fun x hx => by simp at hx, List.Pairwise.nil⟩
theorem OwnH.base {base base' hi : Nat} {w : World} {v : Value} {fs : List F2} (h : OwnH base hi w v fs) (hb : base' ≤ base) : OwnF base' w v fs := h.to_f.base hb
set_option maxHeartbeats 3200000 in
set_option maxRecDepth 100000 in
theorem iFunsOf_any {B : Nat} (bv : Value) (b : List Int) (w : World) (hr : Rd B .u8 w bv b) (hb : bytesOk b) (hn : b.length ≤ 1048576) :
    Calls Tryz.prog 15 #[bv] w (FunsOfPost w b) := by
  obtain ⟨ti, hi, hz0, hz1, hz2⟩ := info_parts Tryz.infoFun
  have HR := Lib.hid (fun (W : World) (h : Below w.heap.size w W) => hr.below' h)
  have HN := Lib.hid (fun (W : World) (i : Int) (ok : Bool) (hx : Bx W w.heap.size #[bv, .int .i64 i, .bool ok]) (h : Below w.heap.size w W) (h0 : 0 ≤ i) (h1 : i ≤ b.length) => iNum_any w.heap.size bv b i ok W hx (hr.below' h) hb h0 h1 (by omega))
  have HF := Lib.hid (fun (W : World) (i : Int) (hx : Bx W w.heap.size #[bv, .int .i64 i, .bool true]) (h : Below w.heap.size w W) (h0 : 0 ≤ i) (h1 : i ≤ b.length) => iFun_any w.heap.size bv b i W hx (hr.below' h) (Nat.le_refl _) hb h0 h1 hn)
  have HB := Lib.hid hb
  obtain ⟨ba, bc, rfl⟩ := hr.form
  clear hr hb
  go_enter Tryz.func15, Tryz.ntmps15
  go_wp2_with fail
  generalize hx : w.alloc _ = x
  obtain ⟨bb, kx⟩ := Bx.alloc hx
  clear hx
  refine (HN.out _ _ _ kx bb (by omega) (by omega)).mono ?_
  rintro e w1 ⟨n1, i1, ok1, rfl, r1, hx, g1, s1⟩
  replace bb : Below w.heap.size w w1 := bb.trans (Below.of_grown g1 bb.size (fun q hq => Nat.le_of_eq (Option.some.inj hq)))
  have hxs : w.heap.size + 1 ≤ w1.heap.size := by have := hx.1; omega
  have a1 := r1.lo
  have c1 := r1.hi
  obtain ⟨c, rfl⟩ : ∃ c : Nat, n1 = (c : Int) := ⟨n1.toNat, by omega⟩
  have HI := Lib.hid (FsInv.start r1)
  clear g1 s1 kx r1
  go_wp2_with fail
  generalize hz : w1.alloc _ = z
  have hown : OwnH (w.heap.size + 1) z.heap.size z (.slice (some ⟨w1.heap.size, 0, none⟩) 0 0) [] := by
    subst hz
    exact OwnH.nil (own_empty rfl hxs) (fun q hq => by cases hq; simp)
  obtain ⟨bz, _⟩ := Bx.alloc hz
  replace hx := hx.below bz hx.1
  replace bb := bb.trans (bz.mono bb.size)
  replace hxs := Nat.le_trans hxs bz.size
  clear hz bz
  go_loopw [6, 7] (fun s t wr => ∃ (k : Nat) (acc : List F2) (i : Int) (ok : Bool) (v : Value), k ≤ c ∧ t = .int .i64 k ∧ s = v ∧ Hid (FsInv b c k i ok acc) ∧ Bx wr w.heap.size #[.slice ba b.length bc, .int .i64 i, .bool ok] ∧ Below w.heap.size w wr ∧ OwnH (w.heap.size + 1) wr.heap.size wr v acc ∧ w.heap.size + 1 ≤ wr.heap.size) (fun _ t _ => c - (intOf t).toNat)
  case atStart => exact ⟨0, [], i1, ok1, _, Nat.zero_le _, rfl, rfl, HI, hx, bb, hown, hxs⟩
  case round =>
    clear HI hx bb hown hxs a1
    obtain ⟨k, acc, i, ok, v, hk, rfl, rfl, HI, hx, bb, hown, hxs⟩ := hrel
    have l0 := HI.out.lo
    have l2 := HI.out.len
    have l3 := HI.out.many
    obtain ⟨va, vc, rfl⟩ := hown.form
    have cx := hx.2.1
    by_cases hgo : ok = true ∧ k < c
    · obtain ⟨rfl, hlt⟩ := hgo
      have hki : (k : Int) < (c : Int) := by omega
      go_wp2_with fail
      clear cx
      refine (HF.out _ _ hx bb l0 l2).mono ?_
      rintro e w2 ⟨x, u, i2, ok2, rfl, r2, ou, hx2, g2⟩
      have hz2' := g2.size
      replace hown := hown.same (w' := w2) (fun q hq1 hq2 => g2.block q hq2 (fun e => by injection e with e; omega))
      replace bb : Below w.heap.size w w2 := bb.trans (Below.of_grown g2 bb.size (fun q hq => Nat.le_of_eq (Option.some.inj hq)))
      have HS := Lib.hid (FsInv.step HI.out hlt HB.out r2)
      have hul : ∀ q, u.ownBlock = some q → wr.heap.size ≤ q := fun q hq => (ou.lt q hq).1
      replace ou := own_base ou (show w.heap.size + 1 ≤ wr.heap.size from hxs)
      obtain ⟨ua, uc, rfl⟩ := own_form ou
      clear HI r2 g2 hx
      obtain ⟨xs, hrow, hrb⟩ := hown.row
      have hal : ∀ q, q < w2.heap.size → (w2.alloc (.cells #[.int .i64 x.f, .slice ua x.os.length uc] 48)).heap[q]? = w2.heap[q]? := fun q hq => ((Below.refl w2.heap.size w2).alloc (Nat.le_refl _) _).block q hq
      go_wp2_with (at_builtin; refine wpList_app1_at rfl _ _ 30 rfl (w.heap.size + 1) 48 ti (.agg #[.int .i64 0, .slice none 0 0]) 2 32 Tryz.underlying30 hi hz0 hz1 hz2 rfl (by decide) _ _ _ (by rfl) (hrow.alloc (.cells #[.int .i64 x.f, .slice ua x.os.length uc] 48)) #[.int .i64 x.f, .slice ua x.os.length uc] rfl (by simp [Value.oneCell']) (w2.heap.size + 1) (by simp) (by rfl) (by unfold maxLen; omega) (by omega) (by simp; omega) ?_)
      intro v3 w3 o3 g3 alt
      have hsz : (w2.alloc (.cells #[.int .i64 x.f, .slice ua x.os.length uc] 48)).heap.size = w2.heap.size + 1 := by simp
      have hown3 := OwnH.snoc (hown.same (fun q _ hq2 => hal q (by omega))) (ou.alloc _) hul (by omega) g3 (fun ys hy => (own_uniq hy (hrow.alloc _)) ▸ o3) (by rw [hsz]; exact alt)
      have bz := (Below.refl w2.heap.size w2).alloc (Nat.le_refl _) (.cells #[.int .i64 x.f, .slice ua x.os.length uc] 48)
      replace hx := (hx2.below bz hx2.1).grown g3 (fun h => by have := hrb _ h.symm; omega)
      replace bb : Below w.heap.size w w3 := (bb.trans (bz.mono bb.size)).trans (Below.of_grown g3 (by omega) (fun q hq => by have := hrb q hq; omega))
      have hxs3 : w.heap.size + 1 ≤ w3.heap.size := by have := g3.size; omega
      clear hown hrow hrb hal o3 g3 alt ou hul hx2 bz hxs hsz hz2'
      go_wp2
      go_roundw
      case rel => exact ⟨k + 1, _, i2, ok2, v3, hlt, by go_num, rfl, HS, hx, bb, hown3, hxs3⟩
      case measure => simp [intOf]; omega
    · cases ok
      · have hno := (FsInv.done HI.out (fun h => by cases h)).2 rfl
        have HNO := Lib.hid hno
        clear hno hgo
        by_cases hlt : k < c
        · have hki : (k : Int) < (c : Int) := by omega
          go_wp2
          go_ret2
          exact ⟨_, by rw [HNO.out]; rfl, by rw [HNO.out]; exact ownF_nil (World.ownsRow_nil _ _ _ _), bb⟩
        · have hki : ¬ ((k : Int) < (c : Int)) := by omega
          go_wp2
          go_ret2
          exact ⟨_, by rw [HNO.out]; rfl, by rw [HNO.out]; exact ownF_nil (World.ownsRow_nil _ _ _ _), bb⟩
      · have hlt : ¬ k < c := fun h => hgo ⟨rfl, h⟩
        have hki : ¬ ((k : Int) < (c : Int)) := by omega
        have hyes := (FsInv.done HI.out (fun _ => by omega)).1 rfl
        have hfo := funsOf_of HB.out hyes
        obtain ⟨_, _, hpos, hle, _⟩ := parseF_some HB.out hyes
        have hbp : ((b.length : Int) == 0) = false := beq_eq_false_iff_ne.2 (by omega)
        have hne : b ≠ [] := by intro h; rw [h] at hle; simp at hle; omega
        have hfb := iFunsBytes_any _ acc wr (RdF.of_own hown.to_f) HI.out.fin (by omega)
        have HFB := Lib.hid hfb
        have HO := Lib.hid hown
        have hle2 : (funsBytes acc).length ≤ 4294967296 := by
          unfold funsBytes
          split
          · rename_i hok; have := funsRaw_len hok; omega
          · simp
        by_cases heq : funsBytes acc = b
        · have hR : funsOf b = some acc := by rw [hfo, if_pos ⟨heq, hne⟩]
          have HRR := Lib.hid hR
          have HQ := Lib.hid (show decide (funsBytes acc = b) = true from decide_eq_true heq)
          clear hfb hR heq hfo hyes hgo hown hne
          go_wp2_with fail
          refine HFB.out.mono ?_
          rintro e w4 ⟨v4, rfl, o4, b4⟩
          have hbe := bytesEqual_any _ _ (funsBytes acc) b w4 (Rd.of_own o4) (HR.out _ (bb.trans (b4.mono bb.size))) (mem_bytes (funsBytes_in acc)) HB.out
          rw [HQ.out] at hbe
          have HBE := Lib.hid hbe
          obtain ⟨a4, c4, rfl⟩ := own_form o4
          clear hbe o4 cx
          go_wp2_with fail
          refine HBE.out.mono ?_
          rintro e w5 ⟨rfl, rfl⟩
          go_wp2
          go_ret2
          exact ⟨_, by rw [HRR.out]; rfl, by rw [HRR.out]; exact (HO.out.same (fun q _ hq => b4.block q hq)).base (Nat.le_succ _), bb.trans (b4.mono bb.size)⟩
        · have hR : funsOf b = none := by rw [hfo, if_neg (fun h => heq h.1)]
          have HRR := Lib.hid hR
          have HQ := Lib.hid (show decide (funsBytes acc = b) = false from decide_eq_false heq)
          clear hfb hR heq hfo hyes hgo hown hne
          go_wp2_with fail
          refine HFB.out.mono ?_
          rintro e w4 ⟨v4, rfl, o4, b4⟩
          have hbe := bytesEqual_any _ _ (funsBytes acc) b w4 (Rd.of_own o4) (HR.out _ (bb.trans (b4.mono bb.size))) (mem_bytes (funsBytes_in acc)) HB.out
          rw [HQ.out] at hbe
          have HBE := Lib.hid hbe
          obtain ⟨a4, c4, rfl⟩ := own_form o4
          clear hbe o4 cx
          go_wp2_with fail
          refine HBE.out.mono ?_
          rintro e w5 ⟨rfl, rfl⟩
          go_wp2
          go_ret2
          exact ⟨_, by rw [HRR.out]; rfl, by rw [HRR.out]; exact ownF_nil (World.ownsRow_nil _ _ _ _), bb.trans (b4.mono bb.size)⟩
end Go.Proofs.YtdmkhipimcjipaaGreat
end
section
namespace Go.Proofs.YtdmkhipimcjipaaGreat
open Go.RowKit
set_option linter.unusedVariables false
set_option linter.unusedSimpArgs false
set_option maxHeartbeats 6400000 in
set_option maxRecDepth 100000 in
theorem sFunsOf_any {B : Nat} (bv : Value) (b : List Int) (w : World) (hr : Rd B .u8 w bv b) (hb : bytesOk b) (hn : b.length ≤ 1048576) :
    Calls Tryz.prog 18 #[bv] w (FunsOfPost w b) := by
  obtain ⟨ti, hi, hz0, hz1, hz2⟩ := info_parts Tryz.infoFun
  obtain ⟨to, oi, oz0, oz1, oz2⟩ := info_parts Tryz.infoOp
  have HR := Lib.hid (fun (W : World) (h : Below w.heap.size w W) => hr.below' h)
  have HN := Lib.hid (fun (W : World) (i : Int) (ok : Bool) (hx : Bx W w.heap.size #[bv, .int .i64 i, .bool ok]) (h : Below w.heap.size w W) (h0 : 0 ≤ i) (h1 : i ≤ b.length) => sNum_any w.heap.size bv b i ok W hx (hr.below' h) hb h0 h1 (by omega))
  have HB := Lib.hid hb
  obtain ⟨ba, bc, rfl⟩ := hr.form
  clear hr hb
  go_enter Tryz.func18, Tryz.ntmps18
  go_wp2_with fail
  generalize hx : (w.alloc _).alloc _ = x
  obtain ⟨bb, kx, kd, sx⟩ := alloc_two hx
  have hown : OwnH (w.heap.size + 1) x.heap.size x (.slice (some ⟨w.heap.size + 1, 0, none⟩) 0 0) [] := by
    subst hx
    exact OwnH.nil (own_empty (by simp) (Nat.le_refl _)) (fun q hq => by cases hq; simp)
  clear hx kd
  have hxs : w.heap.size + 1 ≤ x.heap.size := by omega
  have hrz : x.heap.size ≤ x.heap.size := Nat.le_refl _
  clear sx
  refine (HN.out _ _ _ kx bb (by omega) (by omega)).mono ?_
  rintro e w1 ⟨n1, i1, ok1, rfl, r1, hx, g1, s1⟩
  replace bb : Below w.heap.size w w1 := bb.trans (Below.of_grown g1 bb.size (fun q hq => Nat.le_of_eq (Option.some.inj hq)))
  replace hown := (hown.grown g1 (Nat.le_refl _) (fun r hr => by have := Option.some.inj hr; omega)).mono g1.size
  replace hxs := Nat.le_trans hxs g1.size
  have a1 := r1.lo
  have c1 := r1.hi
  obtain ⟨c, rfl⟩ : ∃ c : Nat, n1 = (c : Int) := ⟨n1.toNat, by omega⟩
  have HI := Lib.hid (FsInv.start r1)
  clear g1 s1 kx r1 hrz
  go_wp2
  go_loopw [5, 7] (fun s t wr => ∃ (k : Nat) (acc : List F2) (i : Int) (ok : Bool) (v : Value), k ≤ c ∧ t = .int .i64 k ∧ s = v ∧ Hid (FsInv b c k i ok acc) ∧ Bx wr w.heap.size #[.slice ba b.length bc, .int .i64 i, .bool ok] ∧ Below w.heap.size w wr ∧ OwnH (w.heap.size + 1) wr.heap.size wr v acc ∧ w.heap.size + 1 ≤ wr.heap.size) (fun _ t _ => c - (intOf t).toNat)
  case atStart => exact ⟨0, [], i1, ok1, _, Nat.zero_le _, rfl, rfl, HI, hx, bb, hown, hxs⟩
  case round =>
    clear HI hx bb hown hxs a1
    obtain ⟨k, acc, i0, ok, v, hk, rfl, rfl, HI, hx, bb, hown, hxs⟩ := hrel
    have l0 := HI.out.lo
    have l2 := HI.out.len
    have l3 := HI.out.many
    obtain ⟨va, vc, rfl⟩ := hown.form
    have cx := hx.2.1
    by_cases hgo : ok = true ∧ k < c
    · obtain ⟨rfl, hlt⟩ := hgo
      have hki : (k : Int) < (c : Int) := by omega
      go_wp2_with fail
      clear cx
      generalize hz : wr.alloc _ = z
      obtain ⟨bz, kf⟩ := Bx.alloc hz
      clear hz
      replace hx := hx.below bz hx.1
      replace hown := hown.below bz (Nat.le_refl _)
      replace bb := bb.trans (bz.mono bb.size)
      have own : z.ownsRow (wr.heap.size + 1) 50 3 (.slice none 0 0) 0 (flat O3.enc []) := World.ownsRow_nil _ _ _ _
      obtain ⟨HZ, hHZ⟩ : ∃ HZ, wr.heap.size = HZ := ⟨_, rfl⟩
      rw [hHZ] at kf own hown hxs ⊢
      have hzs : HZ + 1 ≤ z.heap.size := kf.1
      have hwz := hxs
      replace hxs := hzs
      have HHZ := Lib.hid hHZ
      clear hzs hHZ bz
      refine (HN.out _ _ _ hx bb (by omega) (by omega)).mono ?_
      rintro e w1 ⟨n1, i1, ok1, rfl, r1, hx2, g2, s2⟩
      replace kf := kf.grown g2 (fun h => by have := Option.some.inj h; omega)
      replace own := own.kept g2 (own_ne own (by omega))
      replace hown := hown.grown g2 (by omega) (fun r hr => by have := Option.some.inj hr; omega)
      replace bb : Below w.heap.size w w1 := bb.trans (Below.of_grown g2 bb.size (fun q hq => Nat.le_of_eq (Option.some.inj hq)))
      replace hx := hx2
      replace hxs := Nat.le_trans hxs g2.size
      have t1 := r1.le
      have u1 := r1.len
      have a1 := r1.lo
      have c1' := r1.hi
      clear g2 hx2 s2
      have ckf := kf.2.1
      have ykf := kf.1
      have zkf := kf.2.2
      go_wp2_with fail
      clear ckf ykf zkf
      have gs := grownBy.setCell w1 (HZ) 0 (.int .i64 n1)
      replace hx := hx.grown gs (fun h => by have := Option.some.inj h; omega)
      replace kf : Bx _ (HZ) #[.int .i64 n1, .slice none 0 0] := kf.put 0 (by simp) (.int .i64 n1)
      replace own := own.kept gs (own_ne own (by omega))
      replace hown := hown.grown gs (by omega) (fun r hr => by have := Option.some.inj hr; omega)
      replace bb := bb.trans (Below.of_grown gs bb.size (fun q hq => by have := Option.some.inj hq; omega))
      replace hxs := Nat.le_trans hxs gs.size
      clear gs
      generalize w1.setCell ⟨HZ, 0, none⟩ (.int .i64 n1) = x1 at *
      refine (HN.out _ _ _ hx bb (by omega) (by omega)).mono ?_
      rintro e w2 ⟨n2, i2, ok2, rfl, r2, hx2, g2, s2⟩
      replace kf := kf.grown g2 (fun h => by have := Option.some.inj h; omega)
      replace own := own.kept g2 (own_ne own (by omega))
      replace hown := hown.grown g2 (by omega) (fun r hr => by have := Option.some.inj hr; omega)
      replace bb : Below w.heap.size w w2 := bb.trans (Below.of_grown g2 bb.size (fun q hq => Nat.le_of_eq (Option.some.inj hq)))
      replace hx := hx2
      replace hxs := Nat.le_trans hxs g2.size
      have t2 := r2.le
      have u2 := r2.len
      have a2 := r2.lo
      have c2 := r2.hi
      clear g2 hx2 s2
      obtain ⟨d, rfl⟩ : ∃ d : Nat, n2 = (d : Int) := ⟨n2.toNat, by omega⟩
      have HJ := Lib.hid (FunInv.start r1 r2 l0)
      clear r1 r2
      go_wp2
      go_loopw [10] (fun s wr => ∃ (t : Nat) (os : List O3) (i : Int) (ok : Bool) (v : Value), t ≤ d ∧ s = .int .i64 t ∧ Hid (FunInv b i0 n1 d t i ok os) ∧ Bx wr w.heap.size #[.slice ba b.length bc, .int .i64 i, .bool ok] ∧ Below w.heap.size w wr ∧ OwnH (w.heap.size + 1) HZ wr (.slice va acc.length vc) acc ∧ Bx wr HZ #[.int .i64 n1, v] ∧ wr.ownsRow (HZ + 1) 50 3 v os.length (flat O3.enc os) ∧ HZ + 1 ≤ wr.heap.size) (fun s _ => d - (intOf s).toNat)
      case atStart => exact ⟨0, [], i2, ok2, _, Nat.zero_le _, rfl, HJ, hx, bb, hown, kf, own, hxs⟩
      case round =>
        clear HJ hx bb hown kf own hxs t1 u1 t2 u2 a2
        obtain ⟨t, os, i, ok, v9, ht, rfl, HJ, hx, bb, hown, kf, own, hxs⟩ := hrel
        have m1 := HJ.out.le
        have m2 := HJ.out.len
        have m3 := HJ.out.many
        obtain ⟨ua, uc, rfl⟩ := own_form own
        by_cases hgo : ok = true ∧ t < d
        · obtain ⟨rfl, htl⟩ := hgo
          have hti : (t : Int) < (d : Int) := by omega
          have chx := hx.2.1
          have yhx := hx.1
          have zhx := hx.2.2
          go_wp2_with fail
          clear chx yhx zhx
          have hol := own_lt own
          generalize hz : wr.alloc _ = z
          obtain ⟨bz, ko⟩ := Bx.alloc hz
          clear hz
          replace hx := hx.below bz hx.1
          replace kf := kf.below bz kf.1
          replace own := own_below own bz hol
          have hne : ∀ q, (Value.slice ua os.length uc).ownBlock = some q → q ≠ wr.heap.size := fun q hq => Nat.ne_of_lt (hol q hq)
          replace hown := hown.below bz (by omega)
          replace bb := bb.trans (bz.mono bb.size)
          have hOs : HZ + 1 ≤ wr.heap.size := hxs
          replace hxs := Nat.le_trans hxs bz.size
          clear bz hol
          refine (HN.out _ _ _ hx bb (by omega) (by omega)).mono ?_
          rintro e w3 ⟨n3, i3, ok3, rfl, r3, hx2, g2, s2⟩
          replace kf := kf.grown g2 (fun h => by have := Option.some.inj h; omega)
          replace ko := ko.grown g2 (fun h => by have := Option.some.inj h; omega)
          replace own := own.kept g2 (own_ne own (by omega))
          replace hown := hown.grown g2 (by omega) (fun r hr => by have := Option.some.inj hr; omega)
          replace bb : Below w.heap.size w w3 := bb.trans (Below.of_grown g2 bb.size (fun q hq => Nat.le_of_eq (Option.some.inj hq)))
          replace hx := hx2
          replace hxs := Nat.le_trans hxs g2.size
          have t3 := r3.le
          have u3 := r3.len
          have a3 := r3.lo
          have c3 := r3.hi
          clear g2 hx2 s2
          have cko := ko.2.1
          have yko := ko.1
          have zko := ko.2.2
          go_wp2_with fail
          clear cko yko zko
          have gs := grownBy.setCell w3 (wr.heap.size) 0 (.int .i64 n3)
          replace hx := hx.grown gs (fun h => by have := Option.some.inj h; omega)
          replace kf := kf.grown gs (fun h => by have := Option.some.inj h; omega)
          replace ko : Bx _ (wr.heap.size) #[.int .i64 n3, .int .i64 0, .int .i64 0] := ko.put 0 (by simp) (.int .i64 n3)
          replace own := own.kept gs (own_off hne)
          replace hown := hown.grown gs (by omega) (fun r hr => by have := Option.some.inj hr; omega)
          replace bb := bb.trans (Below.of_grown gs bb.size (fun q hq => by have := Option.some.inj hq; omega))
          replace hxs := Nat.le_trans hxs gs.size
          clear gs
          generalize w3.setCell ⟨wr.heap.size, 0, none⟩ (.int .i64 n3) = x3 at *
          refine (HN.out _ _ _ hx bb (by omega) (by omega)).mono ?_
          rintro e w4 ⟨n4, i4, ok4, rfl, r4, hx2, g2, s2⟩
          replace kf := kf.grown g2 (fun h => by have := Option.some.inj h; omega)
          replace ko := ko.grown g2 (fun h => by have := Option.some.inj h; omega)
          replace own := own.kept g2 (own_ne own (by omega))
          replace hown := hown.grown g2 (by omega) (fun r hr => by have := Option.some.inj hr; omega)
          replace bb : Below w.heap.size w w4 := bb.trans (Below.of_grown g2 bb.size (fun q hq => Nat.le_of_eq (Option.some.inj hq)))
          replace hx := hx2
          replace hxs := Nat.le_trans hxs g2.size
          have t4 := r4.le
          have u4 := r4.len
          have a4 := r4.lo
          have c4 := r4.hi
          clear g2 hx2 s2
          have cko := ko.2.1
          have yko := ko.1
          have zko := ko.2.2
          have e9 : IntKind.i64.wrap (n4 - 1073741824) = n4 - 1073741824 := IntWalk.i64_in _ (by omega)
          go_wp2_with fail
          clear cko yko zko
          have gs := grownBy.setCell w4 (wr.heap.size) 1 (.int .i64 (n4 - 1073741824))
          replace hx := hx.grown gs (fun h => by have := Option.some.inj h; omega)
          replace kf := kf.grown gs (fun h => by have := Option.some.inj h; omega)
          replace ko : Bx _ (wr.heap.size) #[.int .i64 n3, .int .i64 (n4 - 1073741824), .int .i64 0] := ko.put 1 (by simp) (.int .i64 (n4 - 1073741824))
          replace own := own.kept gs (own_off hne)
          replace hown := hown.grown gs (by omega) (fun r hr => by have := Option.some.inj hr; omega)
          replace bb := bb.trans (Below.of_grown gs bb.size (fun q hq => by have := Option.some.inj hq; omega))
          replace hxs := Nat.le_trans hxs gs.size
          clear gs
          generalize w4.setCell ⟨wr.heap.size, 1, none⟩ (.int .i64 (n4 - 1073741824)) = x4 at *
          refine (HN.out _ _ _ hx bb (by omega) (by omega)).mono ?_
          rintro e w5 ⟨n5, i5, ok5, rfl, r5, hx2, g2, s2⟩
          replace kf := kf.grown g2 (fun h => by have := Option.some.inj h; omega)
          replace ko := ko.grown g2 (fun h => by have := Option.some.inj h; omega)
          replace own := own.kept g2 (own_ne own (by omega))
          replace hown := hown.grown g2 (by omega) (fun r hr => by have := Option.some.inj hr; omega)
          replace bb : Below w.heap.size w w5 := bb.trans (Below.of_grown g2 bb.size (fun q hq => Nat.le_of_eq (Option.some.inj hq)))
          replace hx := hx2
          replace hxs := Nat.le_trans hxs g2.size
          have t5 := r5.le
          have u5 := r5.len
          have a5 := r5.lo
          have c5 := r5.hi
          clear g2 hx2 s2
          have HS := Lib.hid (FunInv.step HJ.out htl HB.out r3 r4 r5)
          clear HJ r3 r4 r5
          have cko := ko.2.1
          have yko := ko.1
          have zko := ko.2.2
          have ckf := kf.2.1
          have ykf := kf.1
          have zkf := kf.2.2
          go_wp2_with (at_builtin; refine wpList_app1 rfl _ _ 46 rfl (HZ + 1) 50 to (.agg #[.int .i64 0, .int .i64 0, .int .i64 0]) 3 24 Tryz.underlying46 oi oz0 oz1 oz2 rfl (by decide) _ _ _ (by rfl) (own.kept (grownBy.setCell w5 (wr.heap.size) 2 (.int .i64 n5)) (own_off hne)) #[.int .i64 n3, .int .i64 (n4 - 1073741824), .int .i64 n5] rfl (by simp [Value.oneCell']) (by simp only [World.size_setCell]; rfl) (by unfold maxLen; omega) (by omega) (by simp only [World.size_setCell]; omega) ?_)
          intro v9 w9 own9 g9 nn
          clear cko yko zko ckf ykf zkf
          have gs := grownBy.setCell w5 (wr.heap.size) 2 (.int .i64 n5)
          replace hx := hx.grown gs (fun h => by have := Option.some.inj h; omega)
          replace kf := kf.grown gs (fun h => by have := Option.some.inj h; omega)
          replace ko : Bx _ (wr.heap.size) #[.int .i64 n3, .int .i64 (n4 - 1073741824), .int .i64 n5] := ko.put 2 (by simp) (.int .i64 n5)
          replace own := own.kept gs (own_off hne)
          replace hown := hown.grown gs (by omega) (fun r hr => by have := Option.some.inj hr; omega)
          replace bb := bb.trans (Below.of_grown gs bb.size (fun q hq => by have := Option.some.inj hq; omega))
          replace hxs := Nat.le_trans hxs gs.size
          clear gs
          generalize w5.setCell ⟨wr.heap.size, 2, none⟩ (.int .i64 n5) = x5 at *
          obtain ⟨acc2, ha2, hl2⟩ : ∃ l, l = os ++ [(⟨n3, n4 - 1073741824, n5⟩ : O3)] ∧ l.length = os.length + 1 := ⟨_, rfl, by simp⟩
          replace own9 : w9.ownsRow (HZ + 1) 50 3 v9 acc2.length (flat O3.enc acc2) := by rw [hl2, ha2, flat_snoc]; exact own9
          rw [← ha2] at HS
          clear ha2 hl2
          replace hx := hx.grown g9 (fun h => by have := (own.lt _ h.symm).1; omega)
          replace kf := kf.grown g9 (fun h => by have := (own.lt _ h.symm).1; omega)
          replace hown := hown.grown g9 (by omega) (fun r hr => by have := (own.lt r hr).1; omega)
          replace bb := bb.trans (Below.of_grown g9 bb.size (fun q hq => by have := (own.lt q hq).1; omega))
          replace hxs := Nat.le_trans hxs g9.size
          clear g9 nn own ko hne
          have own := own9
          clear own9
          obtain ⟨va9, vc9, rfl⟩ := own_form own
          have ckf := kf.2.1
          have ykf := kf.1
          have zkf := kf.2.2
          go_wp2
          clear ckf ykf zkf
          have gs := grownBy.setCell w9 HZ 1 (.slice va9 acc2.length vc9)
          go_roundw
          case rel => exact ⟨t + 1, acc2, i5, ok5, _, htl, by go_num, HS, hx.grown gs (fun h => by have := Option.some.inj h; omega), bb.trans (Below.of_grown gs bb.size (fun q hq => by have := Option.some.inj hq; omega)), hown.grown gs (by omega) (fun r hr => by have := Option.some.inj hr; omega), kf.put 1 (by simp) _, own.kept gs (own_ne own (by omega)), Nat.le_trans hxs gs.size⟩
          case measure => simp [intOf]; omega
        · by_cases htl : t < d
          · have hti : (t : Int) < (d : Int) := by omega
            obtain rfl : ok = false := by cases ok; rfl; exact absurd ⟨rfl, htl⟩ hgo
            have HD := Lib.hid (FunInv.done HJ.out (fun h => by cases h) ⟨a1, c1'⟩)
            clear HJ
            have HS := Lib.hid (FsInv.step HI.out hlt HB.out HD.out)
            clear HD
            obtain ⟨xs, hrow, hrb⟩ := hown.row
            have chx := hx.2.1
            have yhx := hx.1
            have zhx := hx.2.2
            have ckf := kf.2.1
            have ykf := kf.1
            have zkf := kf.2.2
            go_wp2_with (at_builtin; refine wpList_app1_at rfl _ _ 30 rfl (w.heap.size + 1) 48 ti (.agg #[.int .i64 0, .slice none 0 0]) 2 32 Tryz.underlying30 hi hz0 hz1 hz2 rfl (by decide) _ _ _ (by rfl) hrow #[.int .i64 n1, .slice ua os.length uc] rfl (by simp [Value.oneCell']) wr.heap.size (by rfl) (by rfl) (by unfold maxLen; omega) (by omega) (by omega) ?_)
            intro v3 w3 o3 g3 alt
            clear chx yhx zhx ckf ykf zkf
            have hown3 := OwnH.snoc (x := ⟨n1, os⟩) (hown) (own_base own (show w.heap.size + 1 ≤ HZ + 1 by omega)) (fun q hq => by have := (own.lt q hq).1; omega) (by omega) g3 (fun ys hy => (own_uniq hy hrow) ▸ o3) alt
            replace hx := hx.grown g3 (fun h => by have := hrb _ h.symm; omega)
            replace bb : Below w.heap.size w w3 := bb.trans (Below.of_grown g3 bb.size (fun q hq => by have := hrb q hq; omega))
            have hxs3 : w.heap.size + 1 ≤ w3.heap.size := by have := g3.size; omega
            clear hown hrow hrb o3 g3 alt own kf hxs
            go_wp2
            go_roundw
            case rel => exact ⟨k + 1, _, i, _, v3, hlt, by go_num, rfl, HS, hx, bb, hown3, hxs3⟩
            case measure => simp [intOf]; omega
          · have hti : ¬ ((t : Int) < (d : Int)) := by omega
            have HD := Lib.hid (FunInv.done HJ.out (fun _ => by omega) ⟨a1, c1'⟩)
            clear HJ
            have HS := Lib.hid (FsInv.step HI.out hlt HB.out HD.out)
            clear HD
            obtain ⟨xs, hrow, hrb⟩ := hown.row
            have chx := hx.2.1
            have yhx := hx.1
            have zhx := hx.2.2
            have ckf := kf.2.1
            have ykf := kf.1
            have zkf := kf.2.2
            go_wp2_with (at_builtin; refine wpList_app1_at rfl _ _ 30 rfl (w.heap.size + 1) 48 ti (.agg #[.int .i64 0, .slice none 0 0]) 2 32 Tryz.underlying30 hi hz0 hz1 hz2 rfl (by decide) _ _ _ (by rfl) hrow #[.int .i64 n1, .slice ua os.length uc] rfl (by simp [Value.oneCell']) wr.heap.size (by rfl) (by rfl) (by unfold maxLen; omega) (by omega) (by omega) ?_)
            intro v3 w3 o3 g3 alt
            clear chx yhx zhx ckf ykf zkf
            have hown3 := OwnH.snoc (x := ⟨n1, os⟩) (hown) (own_base own (show w.heap.size + 1 ≤ HZ + 1 by omega)) (fun q hq => by have := (own.lt q hq).1; omega) (by omega) g3 (fun ys hy => (own_uniq hy hrow) ▸ o3) alt
            replace hx := hx.grown g3 (fun h => by have := hrb _ h.symm; omega)
            replace bb : Below w.heap.size w w3 := bb.trans (Below.of_grown g3 bb.size (fun q hq => by have := hrb q hq; omega))
            have hxs3 : w.heap.size + 1 ≤ w3.heap.size := by have := g3.size; omega
            clear hown hrow hrb o3 g3 alt own kf hxs
            go_wp2
            go_roundw
            case rel => exact ⟨k + 1, _, i, _, v3, hlt, by go_num, rfl, HS, hx, bb, hown3, hxs3⟩
            case measure => simp [intOf]; omega
    · cases ok
      · have hno := (FsInv.done HI.out (fun h => by cases h)).2 rfl
        have HNO := Lib.hid hno
        clear hno hgo
        by_cases hlt : k < c
        · have hki : (k : Int) < (c : Int) := by omega
          go_wp2
          go_ret2
          exact ⟨_, by rw [HNO.out]; rfl, by rw [HNO.out]; exact ownF_nil (own_empty rfl (by omega)), bb.alloc (by omega) _⟩
        · have hki : ¬ ((k : Int) < (c : Int)) := by omega
          go_wp2
          go_ret2
          exact ⟨_, by rw [HNO.out]; rfl, by rw [HNO.out]; exact ownF_nil (own_empty rfl (by omega)), bb.alloc (by omega) _⟩
      · have hlt : ¬ k < c := fun h => hgo ⟨rfl, h⟩
        have hki : ¬ ((k : Int) < (c : Int)) := by omega
        have hyes := (FsInv.done HI.out (fun _ => by omega)).1 rfl
        by_cases hat : i0 = b.length
        · have hfb := sFunsOk_any _ acc wr (RdF.of_own hown.to_f) HI.out.fin (by omega)
          have hne : (i0 != (b.length : Int)) = false := by simp [hat]
          have hne2 : (i0 == (b.length : Int)) = true := by simp [hat]
          have HO := Lib.hid hown
          cases hok : funsOk acc
          · have hR : funsOf b = none := by unfold funsOf; rw [hyes]; dsimp only; rw [if_neg (fun h => by rw [hok] at h; cases h.2)]
            have HRR := Lib.hid hR
            rw [hok] at hfb
            have HFB := Lib.hid hfb
            clear hfb hR hyes hgo hown hok hat
            go_wp2_with fail
            refine HFB.out.mono ?_
            rintro e w4 ⟨rfl, b4⟩
            replace bb := bb.trans (b4.mono bb.size)
            clear cx
            go_wp2
            go_ret2
            exact ⟨_, by rw [HRR.out]; rfl, by rw [HRR.out]; exact ownF_nil (own_empty rfl bb.size), bb.alloc bb.size _⟩
          · have hR : funsOf b = some acc := by unfold funsOf; rw [hyes]; dsimp only; rw [if_pos ⟨hat, hok⟩]
            have HRR := Lib.hid hR
            rw [hok] at hfb
            have HFB := Lib.hid hfb
            clear hfb hR hyes hgo hown hok hat
            go_wp2_with fail
            refine HFB.out.mono ?_
            rintro e w4 ⟨rfl, b4⟩
            clear cx
            go_wp2
            go_ret2
            exact ⟨_, by rw [HRR.out]; rfl, by rw [HRR.out]; exact (HO.out.below b4 (Nat.le_refl _)).base (Nat.le_succ _), bb.trans (b4.mono bb.size)⟩
        · have hR : funsOf b = none := by unfold funsOf; rw [hyes]; dsimp only; rw [if_neg (fun h => hat h.1)]
          have HRR := Lib.hid hR
          have hne : (i0 != (b.length : Int)) = true := by simp [hat]
          have hne2 : (i0 == (b.length : Int)) = false := by simp [hat]
          clear hR hyes hgo hown hat
          go_wp2
          go_ret2
          exact ⟨_, by rw [HRR.out]; rfl, by rw [HRR.out]; exact ownF_nil (own_empty rfl bb.size), bb.alloc bb.size _⟩
end Go.Proofs.YtdmkhipimcjipaaGreat
end
section
namespace Go.Proofs.YtdmkhipimcjipaaGreat.fnBytes
open Go.ChangeShapes Go.WideShapes Go.ChangeAt Go.RowKit
set_option maxRecDepth 100000
theorem bt {a b : Bool} (h : a = true) (k : b = true) : (a && b) = true := by rw [h, k]; rfl
theorem joined : joinedFacts Tryz.prog 3 Tryz.f3 Rows.fnBytesSpec Rows.fnBytesRow = true := (bt (bt (bt (bt (bt (bt (bt (bt (bt (bt (bt (bt (bt (bt (bt (bt (bt (bt (bt (bt (bt (bt (bt (bt (bt (bt (bt (bt (bt (bt (bt j0 j1) j2) j3) j4) j5) j6) j7) j8) j9) j10) j11) j12) j13) j14) j15) j16) j17) j18) j19) j20) j21) j22) j23) j24) j25) j26) j27) j28) j29) j30) j31)
end Go.Proofs.YtdmkhipimcjipaaGreat.fnBytes
end
