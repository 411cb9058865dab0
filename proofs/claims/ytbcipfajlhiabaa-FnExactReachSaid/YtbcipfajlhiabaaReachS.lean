/- l5Insert, Reach of the reference. -/
import Derived.Test.YtbcipfajlhiabaaInsP
import Derived.Test.YtbcipfajlhiabaaOrder
import Derived.Test.YtbcipfajlhiabaaRoots
import Derived.Test.YtbcipfajlhiabaaShapeP
namespace Go.Proofs.Ytbcipfajlhiabaa
open Go.RowKit
set_option linter.unusedVariables false

theorem Rd.cut {B : Nat} {k : IntKind} {w : World} {b off cap : Nat} {zs : List Int} (hr : Rd B k w (.slice (some ⟨b, off, none⟩) zs.length cap) zs) (a : Nat) (ha : a ≤ zs.length) (c : Nat) (hc : a ≤ c) : Rd B k w (.slice (some ⟨b, off, none⟩) a c) (zs.take a) := by
  rcases hr with ⟨h', _⟩ | ⟨b', off', c', hv, hB, hb, hm, hcell⟩
  · subst h'
    have : a = 0 := by simpa using ha
    subst this
    exact .inl ⟨rfl, _, _, rfl⟩
  · cases hv
    have hl : (zs.take a).length = a := by simp; omega
    refine .inr ⟨b, off, c, by rw [hl], hB, hb, ⟨by omega, by omega⟩, fun j hj => ?_⟩
    rw [hl] at hj
    rw [hcell j (by omega)]
    simp [List.getD, hj]
theorem Rd.rest {B : Nat} {k : IntKind} {w : World} {b off cap : Nat} {zs : List Int} (hr : Rd B k w (.slice (some ⟨b, off, none⟩) zs.length cap) zs) (a : Nat) (ha : a ≤ zs.length) (q : Nat) (hq : q = off + a) (c m : Nat) (hm' : m = zs.length - a) (hc : m ≤ c) : Rd B k w (.slice (some ⟨b, q, none⟩) m c) (zs.drop a) := by
  subst hq
  subst hm'
  rcases hr with ⟨h', _⟩ | ⟨b', off', c', hv, hB, hb, hm, hcell⟩
  · subst h'
    exact .inl ⟨by simp, some ⟨b, off + a, none⟩, c, by simp⟩
  · cases hv
    have hl : (zs.drop a).length = zs.length - a := by simp
    refine .inr ⟨b, off + a, c, by rw [hl], hB, hb, ⟨by omega, by omega⟩, fun j hj => ?_⟩
    rw [hl] at hj
    rw [Nat.add_assoc, hcell (a + j) (by omega)]
    simp [List.getD]

set_option maxHeartbeats 1600000 in
set_option maxRecDepth 100000 in
theorem l5Insert_any {base : Nat} (v : Value) (zs : List Int) (n : Int) (w : World) (ho : w.ownsRow base 3 1 v zs.length (zs.map (Value.int .i64))) (hb : base ≤ w.heap.size) (hl : zs.length ≤ 6000) :
    Calls Try.prog 54 #[v, .int .i64 n] w fun e w' => ∃ u, e = .returned u ∧ w'.ownsRow base 3 1 u (insI n zs).length ((insI n zs).map (Value.int .i64)) ∧ Below w.heap.size w w' := by
  obtain ⟨i0, hi, hz0, hz1, hz2⟩ := info_parts Try.infoI2
  have hr := Rd.of_own ho
  obtain ⟨a, c, rfl⟩ := own_form ho
  have HO := Lib.hid ho
  have HRd := Lib.hid hr
  have hc : ∀ k, k < zs.length → ∃ b off, a = some ⟨b, off, none⟩ ∧ w.cell? ⟨b, off + k, none⟩ = some (.int .i64 (zs.getD k 0)) := by
    intro k hk
    rcases hr with ⟨h', _⟩ | ⟨b, off, c', hv, _, _, _, hcell⟩
    · rw [h'] at hk; simp at hk
    · cases hv; exact ⟨b, off, rfl, hcell k hk⟩
  have HC := Lib.hid hc
  clear ho hr hc
  go_enter Try.func54, Try.ntmps54
  go_wp2
  go_loop [5] (fun i => ∃ k : Nat, k ≤ zs.length ∧ i = .int .i64 k ∧ Hid (∀ j, j < k → zs.getD j 0 < n)) (fun i => zs.length - (intOf i).toNat)
  case atStart => exact ⟨0, Nat.zero_le _, rfl, Lib.hid (fun j hj => absurd hj (by omega))⟩
  case round =>
    obtain ⟨k, hk, rfl, hn⟩ := hrel
    by_cases hlt : k < zs.length
    · obtain ⟨b, off, rfl, c0⟩ := HC.out k hlt
      obtain ⟨x, hxx⟩ : ∃ x, zs.getD k 0 = x := ⟨_, rfl⟩
      rw [hxx] at c0
      have hki : (k : Int) < (zs.length : Int) := by omega
      by_cases hxn : x < n
      · have e1 : decide (x < n) = true := by simpa using hxn
        have HN := Lib.hid (show ∀ j, j < k + 1 → zs.getD j 0 < n from fun j hj => by
          by_cases e : j = k
          · subst e; rw [hxx]; exact hxn
          · exact hn.out j (by omega))
        clear hxx hn hxn
        go_wp2
        go_round
        case rel => exact ⟨k + 1, hlt, by go_num, HN⟩
        case measure => simp [intOf]; omega
      · have e1 : decide (x < n) = false := by simpa using hxn
        have hins := insI_at zs k hk hn.out (fun _ => by rw [hxx]; omega)
        by_cases hxe : x = n
        · have e2 : (x == n) = true := by simpa using hxe
          rw [if_pos ⟨hlt, by rw [hxx]; exact hxe⟩] at hins
          have HI := Lib.hid hins
          clear hxx hn hxn hxe hins
          go_wp2
          go_ret
          exact ⟨_, rfl, by rw [HI.out]; exact HO.out, Below.refl _ _⟩
        · have e2 : (x == n) = false := by simpa using hxe
          rw [if_neg (by rw [hxx]; exact fun h => hxe h.2)] at hins
          have HI := Lib.hid hins
          have hcap : zs.length ≤ c := by
            rcases HRd.out with ⟨h', _⟩ | ⟨_, _, _, hv, _, _, hm, _⟩
            · rw [h'] at hlt; simp at hlt
            · cases hv; exact hm.2
          have hck : ¬ c = k := by omega
          have R1 := Lib.hid (fun (W : World) (hb : Below w.heap.size w W) (cc : Nat) (hcc : k ≤ cc) => (HRd.out.below hb (Nat.le_refl _)).cut k hk cc hcc)
          have R2 := Lib.hid (fun (W : World) (hb : Below w.heap.size w W) (cc m : Nat) (hm : m = zs.length - k) (hcc : m ≤ cc) => (HRd.out.below hb (Nat.le_refl _)).rest k hk (off + k) rfl cc m hm hcc)
          clear hxx hn hxn hxe hins
          go_wp2_with (first | (at_builtin; refine wpList_copy_rd _ rfl (.tmp 34) (.tmp 37) 22 rfl w.heap.size 3 i0 (.int .i64 0) 8 Try.underlying22 hi hz0 hz1 hz2 rfl w.heap.size (by rfl) (by exact heap_alloc_new w _) (Nat.le_refl _) (some ⟨b, off, none⟩) k c (zs.take k) (by rfl) (R1.out _ ((Below.refl _ _).alloc (Nat.le_refl _) _) c (by omega)) (by omega) (by decide) ?_; intro v1 w1 o1 g1; have b1 := Below.grown_at ((Below.refl w.heap.size w).alloc (Nat.le_refl _) (.cells #[] 3)) g1 (by simp) (Nat.le_refl _); have y1 := b1.size; clear g1) | (at_builtin; refine wpList_app1_at rfl (.tmp 39) (.tmp 41) 22 rfl w.heap.size 3 i0 (.int .i64 0) 1 8 Try.underlying22 hi hz0 hz1 hz2 rfl (by decide) v1 _ _ (by rfl) o1 #[.int .i64 n] rfl (by simp [Value.oneCell']) w1.heap.size rfl (by rfl) (by (try rw [List.length_take]); unfold maxLen; omega) (by (try rw [List.length_take]); omega) (by omega) ?_; intro v2 w2 o2 g2 _; have b2 := b1.trans (Below.of_grown (B := w.heap.size) g2 (by omega) (fun kk hk => (o1.lt kk hk).1)); have y2 := b2.size; clear g2) | (at_builtin; refine wpList_app_rd (B := w.heap.size) (k := .i64) _ rfl (.tmp 43) (.tmp 46) 22 rfl w.heap.size 3 i0 (.int .i64 0) 8 Try.underlying22 hi hz0 hz1 hz2 rfl v2 _ _ (by rfl) o2 (some ⟨b, off + k, none⟩) (zs.length - k) (c - k) (zs.drop k) (by rfl) (R2.out _ b2 (c - k) (zs.length - k) rfl (by omega)) (by (try rw [List.length_take]); omega) (by decide) (by omega) ?_; intro v3 w3 o3 g3 _))
          have b3 := b2.trans (Below.of_grown (B := w.heap.size) g3 (by omega) (fun kk hk => (o2.lt kk hk).1))
          have O3 := Lib.hid o3
          clear o1 o2 o3 g3 b1 b2
          go_ret
          refine ⟨_, rfl, ?_, b3⟩
          rw [HI.out]
          refine own_base (base := w.heap.size) ?_ hb
          have o := O3.out
          rw [show (zs.take k).length + 1 + (zs.length - k) = (zs.take k ++ n :: zs.drop k).length by simp; omega] at o
          simpa using o
    · obtain rfl : k = zs.length := by omega
      have hins := insI_at zs zs.length (Nat.le_refl _) hn.out (fun h => absurd h (by omega))
      rw [if_neg (fun h => absurd h.1 (by omega)), List.take_of_length_le (Nat.le_refl _), List.drop_eq_nil_of_le (Nat.le_refl _)] at hins
      have HI := Lib.hid hins
      clear hn hins
      have hcap : zs.length ≤ c := by
        rcases HO.out.2 with ⟨hv, _⟩ | ⟨g, cap, cur, hv, _, _, hn, _⟩
        · injection hv with _ h2 h3; omega
        · injection hv with _ h2 h3; omega
      by_cases hck : c = zs.length
      · subst hck
        go_wp2_with (first | (at_builtin; refine wpList_copy_rd _ rfl (.tmp 34) (.tmp 37) 22 rfl w.heap.size 3 i0 (.int .i64 0) 8 Try.underlying22 hi hz0 hz1 hz2 rfl w.heap.size (by rfl) (by exact heap_alloc_new w _) (Nat.le_refl _) a zs.length _ zs (by rfl) (HRd.out.below ((Below.refl _ _).alloc (Nat.le_refl _) _) (Nat.le_refl _)) (by omega) (by decide) ?_; intro v1 w1 o1 g1; have b1 := Below.grown_at ((Below.refl w.heap.size w).alloc (Nat.le_refl _) (.cells #[] 3)) g1 (by simp) (Nat.le_refl _); have y1 := b1.size; clear g1) | (at_builtin; refine wpList_app1_at rfl (.tmp 39) (.tmp 41) 22 rfl w.heap.size 3 i0 (.int .i64 0) 1 8 Try.underlying22 hi hz0 hz1 hz2 rfl (by decide) v1 _ _ (by rfl) o1 #[.int .i64 n] rfl (by simp [Value.oneCell']) w1.heap.size rfl (by rfl) (by (try rw [List.length_take]); unfold maxLen; omega) (by (try rw [List.length_take]); omega) (by omega) ?_; intro v2 w2 o2 g2 _; have b2 := b1.trans (Below.of_grown (B := w.heap.size) g2 (by omega) (fun kk hk => (o1.lt kk hk).1)); have y2 := b2.size; clear g2) | (at_builtin; refine wpList_app_rd (B := w.heap.size) (k := .i64) _ rfl (.tmp 43) (.tmp 46) 22 rfl w.heap.size 3 i0 (.int .i64 0) 8 Try.underlying22 hi hz0 hz1 hz2 rfl v2 _ _ (by rfl) o2 _ 0 _ [] (by rfl) (.inl ⟨rfl, _, _, rfl⟩) (by (try rw [List.length_take]); omega) (by decide) (by omega) ?_; intro v3 w3 o3 g3 _))
        have b3 := b2.trans (Below.of_grown (B := w.heap.size) g3 (by omega) (fun kk hk => (o2.lt kk hk).1))
        have O3 := Lib.hid o3
        clear o1 o2 o3 g3 b1 b2
        go_ret
        refine ⟨_, rfl, ?_, b3⟩
        rw [HI.out]
        refine own_base (base := w.heap.size) ?_ hb
        have o := O3.out
        simpa using o
      · go_wp2_with (first | (at_builtin; refine wpList_copy_rd _ rfl (.tmp 34) (.tmp 37) 22 rfl w.heap.size 3 i0 (.int .i64 0) 8 Try.underlying22 hi hz0 hz1 hz2 rfl w.heap.size (by rfl) (by exact heap_alloc_new w _) (Nat.le_refl _) a zs.length _ zs (by rfl) (HRd.out.below ((Below.refl _ _).alloc (Nat.le_refl _) _) (Nat.le_refl _)) (by omega) (by decide) ?_; intro v1 w1 o1 g1; have b1 := Below.grown_at ((Below.refl w.heap.size w).alloc (Nat.le_refl _) (.cells #[] 3)) g1 (by simp) (Nat.le_refl _); have y1 := b1.size; clear g1) | (at_builtin; refine wpList_app1_at rfl (.tmp 39) (.tmp 41) 22 rfl w.heap.size 3 i0 (.int .i64 0) 1 8 Try.underlying22 hi hz0 hz1 hz2 rfl (by decide) v1 _ _ (by rfl) o1 #[.int .i64 n] rfl (by simp [Value.oneCell']) w1.heap.size rfl (by rfl) (by (try rw [List.length_take]); unfold maxLen; omega) (by (try rw [List.length_take]); omega) (by omega) ?_; intro v2 w2 o2 g2 _; have b2 := b1.trans (Below.of_grown (B := w.heap.size) g2 (by omega) (fun kk hk => (o1.lt kk hk).1)); have y2 := b2.size; clear g2) | (at_builtin; refine wpList_app_rd (B := w.heap.size) (k := .i64) _ rfl (.tmp 43) (.tmp 46) 22 rfl w.heap.size 3 i0 (.int .i64 0) 8 Try.underlying22 hi hz0 hz1 hz2 rfl v2 _ _ (by rfl) o2 _ 0 _ [] (by rfl) (.inl ⟨rfl, _, _, rfl⟩) (by (try rw [List.length_take]); omega) (by decide) (by omega) ?_; intro v3 w3 o3 g3 _))
        have b3 := b2.trans (Below.of_grown (B := w.heap.size) g3 (by omega) (fun kk hk => (o2.lt kk hk).1))
        have O3 := Lib.hid o3
        clear o1 o2 o3 g3 b1 b2
        go_ret
        refine ⟨_, rfl, ?_, b3⟩
        rw [HI.out]
        refine own_base (base := w.heap.size) ?_ hb
        have o := O3.out
        simpa using o

set_option maxHeartbeats 1600000 in
set_option maxRecDepth 100000 in
theorem sReach_any {B : Nat} (v vr : Value) (ws rs : List Int) (h b n : Int) (w : World) (hr : Rd B .i64 w v ws) (hw : intsOk ws) (hlen : ws.length ≤ 4294967296) (hq : Rd B .i64 w vr rs) (hrl : rs.length ≤ 4294967296)
    (bh : -9223372036854775808 ≤ h ∧ h ≤ 9223372036854775807) (ib : -9223372036854775808 ≤ b ∧ b ≤ 9223372036854775807) (bn : -9223372036854775808 ≤ n ∧ n ≤ 9223372036854775807) :
    Calls Try.prog 27 #[.agg #[v, .int .i64 h, .int .i64 b, .int .i64 n], vr] w fun e w' => ∃ u, e = .returned u ∧ w'.ownsRow w.heap.size 3 1 u (reachOf ws h b n rs).length ((reachOf ws h b n rs).map (Value.int .i64)) ∧ Below w.heap.size w w' := by
  have hO := fun (W : World) (hb : Below w.heap.size w W) => l18Right_any v vr ws rs h b n W (hr.below' hb) hw hlen (hq.below' hb) hrl bh ib bn
  cases hok : rightOf ws h b n rs
  · obtain ⟨a, cap, rfl⟩ := hr.form
    obtain ⟨qa, qc, rfl⟩ := hq.form
    rw [hok] at hO
    have HO := Lib.hid hO
    have HF := Lib.hid (reachOf_not hok)
    clear hO hr hw bh ib bn hok hq
    go_enter Try.func27, Try.ntmps27
    go_wp2_with fail
    generalize hx : (w.alloc _).alloc _ = x
    have ho : x.ownsRow w.heap.size 3 1 (.slice (some ⟨w.heap.size + 1, 0, none⟩) 0 0) 0 [] := by
      rw [← hx]
      exact own_empty (by simp) (by omega)
    obtain ⟨bb, k1, _, _⟩ := alloc_box2 hx
    clear hx
    refine (HO.out _ bb).mono ?_
    rintro e w1 ⟨rfl, b1⟩
    replace k1 := k1.below b1 k1.1
    replace ho := own_below ho b1 (own_lt ho)
    replace bb := bb.trans (b1.mono bb.size)
    clear b1
    have OO := Lib.hid ho
    clear ho
    go_wp2
    go_ret
    exact ⟨_, rfl, by rw [HF.out]; exact OO.out, bb⟩
  · rw [hok] at hO
    have HO := Lib.hid hO
    have HF := reachOf_yes hok
    obtain ⟨h', b', n', ps, rfl, rfl, rfl, hR, hx⟩ := Right.ofR hok
    have hM := fun (W : World) (hb : Below w.heap.size w W) => l18Order_any v vr ws rs h' b' n' ps W hR (hr.below' hb) hw (hq.below' hb) hx hrl
    have hol : (orderOf ws rs).length ≤ 6000 := Nat.le_trans (hR.ord_len (order_ok hR hx)) hR.n_le.2
    obtain ⟨o, ho⟩ : ∃ o, orderOf ws rs = o := ⟨_, rfl⟩
    rw [ho] at hM HF hol
    have HM := Lib.hid hM
    have HFF := Lib.hid HF
    obtain ⟨a, cap, rfl⟩ := hr.form
    obtain ⟨qa, qc, rfl⟩ := hq.form
    clear hO hr hw bh ib bn hok hq hM ho HF hR hx
    go_enter Try.func27, Try.ntmps27
    go_wp2_with fail
    generalize hx : (w.alloc _).alloc _ = x
    have ho : x.ownsRow w.heap.size 3 1 (.slice (some ⟨w.heap.size + 1, 0, none⟩) 0 0) 0 [] := by
      rw [← hx]
      exact own_empty (by simp) (by omega)
    obtain ⟨bb, k1, _, _⟩ := alloc_box2 hx
    clear hx
    refine (HO.out _ bb).mono ?_
    rintro e w1 ⟨rfl, b1⟩
    replace k1 := k1.below b1 k1.1
    replace ho := own_below ho b1 (own_lt ho)
    replace bb := bb.trans (b1.mono bb.size)
    clear b1
    have ck1 := k1.2.1
    have yk1 := k1.1
    go_wp2_with fail
    refine (HM.out _ bb).mono ?_
    rintro e w2 ⟨ov, rfl, oo, b2⟩
    clear ck1 yk1
    replace k1 := k1.below b2 k1.1
    replace ho := own_below ho b2 (own_lt ho)
    replace bb := bb.trans (b2.mono bb.size)
    clear b2
    obtain ⟨oa, oc, rfl⟩ := own_form oo
    have RO := Lib.hid (Rd.of_nums oo)
    have OO := Lib.hid ho
    have BB := Lib.hid bb
    clear oo k1 ho bb
    go_wp2
    go_loopw [5, 7] (fun u i wr => ∃ k : Nat, k ≤ o.length ∧ i = .int .i64 k ∧ wr.ownsRow w.heap.size 3 1 u (insAll ((nums o).take k)).length ((insAll ((nums o).take k)).map (Value.int .i64)) ∧
      Rd w2.heap.size .i64 wr (.slice oa o.length oc) (nums o) ∧ w2.heap.size ≤ wr.heap.size ∧ Below w.heap.size w wr) (fun _ i _ => o.length - (intOf i).toNat)
    case atStart => exact ⟨0, Nat.zero_le _, rfl, OO.out, RO.out, Nat.le_refl _, BB.out⟩
    case round =>
      clear OO RO BB
      obtain ⟨k, hk, rfl, ho, ro, z2, bb⟩ := hrel
      by_cases hlt : k < o.length
      · rcases ro with ⟨h', _⟩ | ⟨bl, off, c', hv, hbg, hbs, hbm, hc⟩
        · have := congrArg List.length h'; rw [nums_len, List.length_nil] at this; omega
        have ro : Rd w2.heap.size .i64 wr (.slice oa o.length oc) (nums o) := .inr ⟨bl, off, c', hv, hbg, hbs, hbm, hc⟩
        have c0 := hc k (by rw [nums_len]; exact hlt)
        rw [nums_len] at hv
        cases hv
        have hst := insAll_step (nums o) k (by rw [nums_len]; exact hlt)
        have hil := insAll_take_len (nums o) k
        rw [nums_len] at hil
        obtain ⟨y, hy⟩ : ∃ y, (nums o).getD k 0 = y := ⟨_, rfl⟩
        rw [hy] at c0 hst
        obtain ⟨zs, hzs⟩ : ∃ zs, insAll ((nums o).take k) = zs := ⟨_, rfl⟩
        rw [hzs] at hst ho hil
        obtain ⟨ua, uc, rfl⟩ := own_form ho
        have HC := Lib.hid (l5Insert_any _ zs y wr ho bb.size (by omega))
        have HST := Lib.hid hst
        have hki : (k : Int) < (o.length : Int) := by omega
        have RO := Lib.hid ro
        have BB := Lib.hid bb
        clear hst hy hzs hc ho ro bb
        go_wp2_with fail
        refine HC.out.mono ?_
        rintro e w4 ⟨u4, rfl, o4, b4⟩
        have R4 := Lib.hid (RO.out.below b4 z2)
        have B4 := Lib.hid (BB.out.trans (b4.mono BB.out.size))
        have z4 : w2.heap.size ≤ w4.heap.size := Nat.le_trans z2 b4.size
        rw [← HST.out] at o4
        have O4 := Lib.hid o4
        clear o4 b4 RO BB z2 c0
        go_wp2
        go_roundw
        case rel => exact ⟨k + 1, hlt, by go_num, O4.out, R4.out, z4, B4.out⟩
        case measure => simp [intOf]; omega
      · obtain rfl : k = o.length := by omega
        rw [List.take_of_length_le (by rw [nums_len]; exact Nat.le_refl _), ← HFF.out] at ho
        have OO := Lib.hid ho
        have BB := Lib.hid bb
        clear ho ro bb
        go_wp2
        go_ret
        exact ⟨_, rfl, OO.out, BB.out⟩

end Go.Proofs.Ytbcipfajlhiabaa
