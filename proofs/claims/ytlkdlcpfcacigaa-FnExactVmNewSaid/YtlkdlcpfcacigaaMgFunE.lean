import Derived.Test.YtlkdlcpfcacigaaOpsT
import Derived.Test.YtlkdlcpfcacigaaOpsE
import Derived.Test.YtlkdlcpfcacigaaHeapTo
/- Functions: szFun, toFun, eqFun. -/
namespace Go.Proofs.Ytlkdlcpfcacigaa
open Go.RowKit
set_option linter.unusedVariables false

set_option maxHeartbeats 400000 in
theorem szFun_any {B : Nat} (f : Int) (v : Value) (os : List O3) (left : Int) (w : World) (hr : RdO B w v os) (h0 : -1 ≤ left) (h1 : left ≤ 4611686018427387904) :
    Calls Try.prog 13 #[.agg #[.int .i64 f, v], .int .i64 left] w fun e w' => e = .returned (.int .i64 (szOf os.length left)) ∧ Below w.heap.size w w' := by
  have hr' := fun (w' : World) (hb : Below w.heap.size w w') => hr.below' hb
  obtain ⟨a, cap, rfl⟩ := hr.form
  clear hr
  have hge := szOf_ge os.length left
  obtain ⟨s, hs⟩ : ∃ s, szOf os.length left = s := ⟨_, rfl⟩
  have hz := fun (W : World) (hb : Below w.heap.size w W) => szOpS_any _ _ left W (hr' _ hb) h0 h1
  rw [hs] at hge hz
  rw [hs]
  have HZ := Lib.hid hz
  clear hz hs hr'
  go_enter Try.func13, Try.ntmps13
  go_wp2_with fail
  refine (HZ.out _ ((Below.refl _ _).alloc (Nat.le_refl _) _)).mono ?_
  rintro e w1 ⟨rfl, rfl⟩
  go_wp2
  all_goals go_ret
  all_goals exact ⟨ret_int (by omega), (Below.refl _ _).alloc (Nat.le_refl _) _⟩

set_option maxHeartbeats 800000 in
set_option maxRecDepth 100000 in
theorem toFun_any {B : Nat} (f : Int) (v : Value) (os : List O3) (w : World) (hr : RdO B w v os) (hn : os.length ≤ 4294967296) :
    Calls Try.prog 18 #[.agg #[.int .i64 f, v]] w fun e w' => ∃ v', e = .returned (.agg #[.int .i64 f, v']) ∧
      w'.ownsRow w.heap.size 74 3 v' os.length (flat O3.enc os) ∧ Below w.heap.size w w' := by
  have hr' := fun (w' : World) (hb : Below w.heap.size w w') => hr.below' hb
  obtain ⟨a, cap, rfl⟩ := hr.form
  clear hr
  go_enter Try.func18, Try.ntmps18
  go_wp2_with fail
  generalize hx : ((w.alloc _).alloc _).alloc _ = x
  obtain ⟨bx, k1, k2, k3, sx⟩ := alloc_box3 hx
  clear hx
  refine (toOpS_any _ _ _ (hr' _ bx) hn).mono ?_
  rintro e w1 ⟨v1, rfl, o1, b1⟩
  obtain ⟨a1, c1, rfl⟩ := own_form o1
  replace k1 := k1.below b1 k1.1
  replace k2 := k2.below b1 k2.1
  replace k3 := k3.below b1 k3.1
  have q1 := k1.2.1
  have q2 := k2.2.1
  have q3 := k3.2.1
  have f1 := k1.2.2
  have f2 := k2.2.2
  have f3 := k3.2.2
  have y1 := k1.1
  have y2 := k2.1
  have y3 := k3.1
  have HS := Lib.hid sx
  clear k1 k2 k3 sx hr'
  have HO := Lib.hid o1
  have b2 := bx.trans (b1.mono bx.size)
  clear o1 bx b1
  go_wp2
  refine bodyPost_ret (v := .agg #[.int .i64 f, .slice a1 os.length c1]) ?_ rfl ⟨_, rfl, ?_, ?_⟩
  · simp [results, Try.results18, go_sem, q2]
  · have hs := HS.out
    refine own_base (base := x.heap.size) ?_ (by omega)
    repeat (refine ownsRow_setCell_below ?_ (by show _ + 1 < _; omega) _)
    exact HO.out
  · repeat (refine Below.setCell ?_ (by show _ ≤ _ + 1; omega) _)
    exact b2

theorem fun_f {f g : Int} {os ps : List O3} (h : (f != g) = true) : false = (decide (f = g) && decide (os = ps)) := by simp at h; simp [h]

set_option maxHeartbeats 400000 in
theorem eqFun_any {B1 B2 : Nat} (f g : Int) (va vb : Value) (os ps : List O3) (w : World) (ha : RdO B1 w va os) (hb : RdO B2 w vb ps) :
    Calls Try.prog 26 #[.agg #[.int .i64 f, va], .agg #[.int .i64 g, vb]] w fun e w' => e = .returned (.bool (decide (f = g) && decide (os = ps))) ∧ Below w.heap.size w w' := by
  have ha' := fun (w' : World) (hb : Below w.heap.size w w') => ha.below' hb
  have hb' := fun (w' : World) (h : Below w.heap.size w w') => hb.below' h
  obtain ⟨a1, c1, rfl⟩ := ha.form
  obtain ⟨a2, c2, rfl⟩ := hb.form
  clear ha hb
  by_cases hf : f = g
  · have hne : (f != g) = false := by simp [hf]
    have hq := fun (W : World) (h : Below w.heap.size w W) => eqOpS_any _ _ _ _ W (ha' W h) (hb' W h)
    obtain ⟨q, hqq⟩ : ∃ q, decide (os = ps) = q := ⟨_, rfl⟩
    rw [hqq] at hq ⊢
    rw [show (decide (f = g) && q) = q by simp [hf]]
    have HQ := Lib.hid hq
    clear hq hqq hf ha' hb'
    go_enter Try.func26, Try.ntmps26
    go_wp2_with fail
    have bx : Below w.heap.size w ((w.alloc (.cells #[.int .i64 f, .slice a1 os.length c1] 52)).alloc (.cells #[.int .i64 g, .slice a2 ps.length c2] 52)) := ((Below.refl _ _).alloc (Nat.le_refl _) _).alloc (by simp) _
    refine (HQ.out _ bx).mono ?_
    rintro e w1 ⟨rfl, b1⟩
    have B1 := Lib.hid (bx.trans (b1.mono bx.size))
    clear bx b1
    cases q
    all_goals go_wp2
    all_goals go_ret
    all_goals exact ⟨rfl, B1.out⟩
  · have hne : (f != g) = true := by simp [hf]
    rw [show (decide (f = g) && decide (os = ps)) = false by simp [hf]]
    go_enter Try.func26, Try.ntmps26
    go_wp2
    go_ret
    exact ⟨rfl, ((Below.refl _ _).alloc (Nat.le_refl _) _).alloc (by simp) _⟩

theorem eqFun_same {B1 B2 : Nat} (f : Int) (va vb : Value) (os : List O3) (w : World) (ha : RdO B1 w va os) (hb : RdO B2 w vb os) :
    Calls Try.prog 26 #[.agg #[.int .i64 f, va], .agg #[.int .i64 f, vb]] w fun e w' => e = .returned (.bool true) ∧ Below w.heap.size w w' :=
  (eqFun_any f f va vb os os w ha hb).mono fun e w' h => ⟨by rw [h.1]; simp, h.2⟩

end Go.Proofs.Ytlkdlcpfcacigaa

/- Slices of functions: what they read as, rows of them that the call owns; szFunS. -/
namespace Go.Proofs.Ytlkdlcpfcacigaa
open Go.RowKit
set_option linter.unusedVariables false

structure F2 where
  f : Int
  os : List O3
deriving DecidableEq
def encFV (x : Int × Value) : List Value := [.int .i64 x.1, x.2]
theorem encFV_len (x : Int × Value) : (encFV x).length = 2 := rfl
def fnIn (x : F2) : Prop := (-9223372036854775808 ≤ x.f ∧ x.f ≤ 9223372036854775807) ∧ ∀ o ∈ x.os, o3In o
def AllF (B : Nat) (w : World) (fl : List (Int × Value)) (fs : List F2) : Prop := fl.length = fs.length ∧ ∀ j (h : j < fl.length) (h' : j < fs.length), fl[j].1 = fs[j].f ∧ RdO B w fl[j].2 fs[j].os
/-- a slice of functions reads as fs. -/
def RdF (B : Nat) (w : World) (v : Value) (fs : List F2) : Prop := ∃ fl, RdE encFV 2 B w v fl ∧ AllF B w fl fs

section
variable {B B' : Nat} {w w' : World} {v : Value} {fs : List F2}
theorem RdF.below (h : RdF B w v fs) (hb : Below B' w w') (hB : B ≤ B') : RdF B w' v fs := by
  obtain ⟨fl, h1, h2, h3⟩ := h
  exact ⟨fl, h1.below hb hB, h2, fun j h h' => ⟨(h3 j h h').1, RdE.below (h3 j h h').2 hb hB⟩⟩
theorem RdF.below' (h : RdF B w v fs) (hb : Below w.heap.size w w') : RdF w.heap.size w' v fs := by
  obtain ⟨fl, h1, h2, h3⟩ := h
  exact ⟨fl, h1.below' hb, h2, fun j h h' => ⟨(h3 j h h').1, RdE.below' (h3 j h h').2 hb⟩⟩
theorem RdF.form (h : RdF B w v fs) : ∃ a cap, v = .slice a fs.length cap := by
  obtain ⟨fl, h1, h2, h3⟩ := h
  rw [← h2]
  exact h1.form
theorem RdF.len (h : RdF B w v fs) : fs.length ≤ maxLen := by
  obtain ⟨fl, h1, h2, h3⟩ := h
  rw [← h2]
  exact h1.len
/-- the two cells of a function. -/
theorem RdF.at_ (h : RdF B w v fs) {k : Nat} (hk : k < fs.length) : ∃ b off cap lv, v = .slice (some ⟨b, off, none⟩) fs.length cap ∧ b < B ∧ b < w.heap.size ∧ fs.length ≤ cap ∧
    w.cell? ⟨b, off + k * 2, none⟩ = some (.int .i64 fs[k].f) ∧ w.cell? ⟨b, off + k * 2 + 1, none⟩ = some lv ∧ RdO B w lv fs[k].os := by
  obtain ⟨fl, h1, h2, h3⟩ := h
  have hk2 : k < fl.length := by omega
  obtain ⟨b, off, cap, e1, e2, e3, e4, e5⟩ := RdE.at_ h1 hk2
  obtain ⟨e6, e7⟩ := h3 k hk2 hk
  refine ⟨b, off, cap, fl[k].2, by rw [← h2]; exact e1, e2, e3, by omega, ?_, e5 1 (by decide), e7⟩
  rw [← e6]
  exact e5 0 (by decide)
end

/-- the one's block lies ahead of the other's. -/
def Blk (u v : Value) : Prop := ∀ x y, u.ownBlock = some x → v.ownBlock = some y → x ≠ y
/-- a row of functions, and their rows, that the call owns. -/
def OwnF (base : Nat) (w : World) (v : Value) (fs : List F2) : Prop := ∃ fl : List (Int × Value), w.ownsRow base 52 2 v fs.length (flat encFV fl) ∧ fl.length = fs.length ∧
  (∀ j (h : j < fl.length) (h' : j < fs.length), fl[j].1 = fs[j].f ∧ w.ownsRow base 74 3 fl[j].2 fs[j].os.length (flat O3.enc fs[j].os)) ∧ (∀ x ∈ fl, Blk v x.2) ∧ fl.Pairwise (fun x y => Blk x.2 y.2)
theorem RdF.of_own {base : Nat} {w : World} {v : Value} {fs : List F2} (h : OwnF base w v fs) : RdF w.heap.size w v fs := by
  obtain ⟨fl, h1, h2, h3, _⟩ := h
  refine ⟨fl, RdE.of_own encFV_len (by rw [h2]; exact h1), h2, fun j a b => ⟨(h3 j a b).1, RdE.of_own O3.enc_len (h3 j a b).2⟩⟩
theorem OwnF.below {base : Nat} {w w' : World} {v : Value} {fs : List F2} (h : OwnF base w v fs) (hb : Below w.heap.size w w') : OwnF base w' v fs := by
  obtain ⟨fl, h1, h2, h3, h4⟩ := h
  exact ⟨fl, own_below h1 hb (own_lt h1), h2, fun j a b => ⟨(h3 j a b).1, own_below (h3 j a b).2 hb (own_lt (h3 j a b).2)⟩, h4⟩
theorem OwnF.base {base base' : Nat} {w : World} {v : Value} {fs : List F2} (h : OwnF base w v fs) (hb : base' ≤ base) : OwnF base' w v fs := by
  obtain ⟨fl, h1, h2, h3, h4⟩ := h
  exact ⟨fl, own_base h1 hb, h2, fun j a b => ⟨(h3 j a b).1, own_base (h3 j a b).2 hb⟩, h4⟩
theorem OwnF.form {base : Nat} {w : World} {v : Value} {fs : List F2} (h : OwnF base w v fs) : ∃ a cap, v = .slice a fs.length cap := by
  obtain ⟨fl, h1, _⟩ := h
  exact own_form h1

/-- how many places functions have. -/
def tot (fs : List F2) : Nat := (fs.map (fun x => x.os.length)).sum
theorem tot_take {fs : List F2} {k : Nat} (h : k < fs.length) : tot (fs.take (k + 1)) = tot (fs.take k) + fs[k].os.length := by
  unfold tot
  rw [← List.take_append_getElem h, List.map_append, List.sum_append]
  simp
theorem tot_mem : ∀ {fs : List F2} {x : F2}, x ∈ fs → x.os.length ≤ tot fs := by
  intro fs
  induction fs with
  | nil => intro x h; cases h
  | cons y fs ih =>
    intro x h
    have e : tot (y :: fs) = y.os.length + tot fs := by simp [tot]
    rcases List.mem_cons.1 h with rfl | h
    · omega
    · have := ih h; omega

end Go.Proofs.Ytlkdlcpfcacigaa

/- toFunS: a copy of a slice of functions, in new rows. -/
namespace Go.Proofs.Ytlkdlcpfcacigaa
open Go.RowKit
set_option linter.unusedVariables false

theorem Try.infoFun : (Try.prog.info? 52).map (fun i => (i.zero, i.size, i.bytes)) = some (some (.agg #[.int .i64 0, .slice none 0 0]), 2, 32) := by kernel_rfl
/-- the first elements new, the others as they were. -/
theorem flatF_set {fl : List (Int × Value)} {ys : List Value} {n k : Nat} (hk : fl.length = k) (h : ys.length = n * 2) (hn : k < n) (a : Int) (u : Value) :
    ((flat encFV fl ++ ys.drop (k * 2)).set (k * 2) (.int .i64 a)).set (k * 2 + 1) u = flat encFV (fl ++ [(a, u)]) ++ ys.drop ((k + 1) * 2) := by
  have hf : (flat encFV fl).length = k * 2 := by rw [flat_len encFV_len, hk]
  have hd : ys.drop (k * 2) = ys[k * 2]'(by omega) :: ys[k * 2 + 1]'(by omega) :: ys.drop (k * 2 + 2) := by
    rw [List.drop_eq_getElem_cons (by omega), List.drop_eq_getElem_cons (by omega)]
  rw [hd, List.set_append_right _ _ (by omega), List.set_append_right _ _ (by omega), hf, Nat.sub_self, show k * 2 + 1 - k * 2 = 1 by omega, flat_snoc, List.append_assoc, show (k + 1) * 2 = k * 2 + 2 by omega]
  rfl

set_option maxHeartbeats 1600000 in
theorem toFunS_any {B : Nat} (v : Value) (fs : List F2) (w : World) (hr : RdF B w v fs) (hn : fs.length ≤ 4294967296) (hm : tot fs ≤ 4294967296) :
    Calls Try.prog 6 #[v] w fun e w' => ∃ v', e = .returned v' ∧ OwnF w.heap.size w' v' fs ∧ Below w.heap.size w w' := by
  obtain ⟨i0, hi, hz0, hz1, hz2⟩ := info_parts Try.infoFun
  have HR := Lib.hid (fun (W : World) (hb : Below w.heap.size w W) => hr.below' hb)
  obtain ⟨a, cap, rfl⟩ := hr.form
  clear hr
  go_enter Try.func6, Try.ntmps6
  go_wp2_with (refine wpList_make_full _ rfl (.tmp 6) (.tmp 6) 24 rfl w.heap.size 52 i0 (.agg #[.int .i64 0, .slice none 0 0]) 2 Try.underlying24 hi hz0 hz1 .i64 .i64 _ _ fs.length rfl rfl rfl rfl ?_ ?_ ?_ ?_)
  · rw [hz2]; omega
  · unfold maxLen; omega
  · exact Nat.le_refl _
  · intro w1 hown hgrow
    have hb1 : Below w.heap.size w w1 := (Below.refl _ _).grown hgrow (Nat.le_refl _) (by simp)
    obtain ⟨xs, hown, hlen⟩ : ∃ xs, w1.ownsRow w.heap.size 52 2 (.slice (some ⟨w.heap.size, 0, none⟩) fs.length fs.length) fs.length xs ∧ xs.length = fs.length * 2 := ⟨_, hown, by simpa using hown.1⟩
    have HL := Lib.hid hlen
    have hgz := (hown.lt _ rfl).2
    have HO := Lib.hid hown
    have HB := Lib.hid hb1
    clear hlen hgrow hown hb1
    go_wp2
    go_loopw [4] (fun i wr => ∃ (k : Nat) (fl : List (Int × Value)), k ≤ fs.length ∧ i = .int .i64 k ∧ Hid (fl.length = k) ∧ wr.ownsRow w.heap.size 52 2 (.slice (some ⟨w.heap.size, 0, none⟩) fs.length fs.length) fs.length (flat encFV fl ++ xs.drop (k * 2)) ∧
      (∀ j (h : j < fl.length) (h' : j < fs.length), fl[j].1 = fs[j].f ∧ wr.ownsRow (w.heap.size + 1) 74 3 fl[j].2 fs[j].os.length (flat O3.enc fs[j].os)) ∧ fl.Pairwise (fun x y => Blk x.2 y.2) ∧ w.heap.size + 1 ≤ wr.heap.size ∧ Below w.heap.size w wr) (fun i _ => fs.length - (intOf i).toNat)
    case atStart => exact ⟨0, [], Nat.zero_le _, rfl, Lib.hid rfl, by simpa [flat] using HO.out, fun j h => absurd h (by simp), List.Pairwise.nil, hgz, HB.out⟩
    case round =>
      clear HO HB
      obtain ⟨k, fl, hk, rfl, hfl, ho, hin, hpw, hgz2, hb⟩ := hrel
      by_cases hlt : k < fs.length
      · obtain ⟨b, off, cap', lv, hs, hB, hbs, hcap, c0, c1, ro⟩ := (HR.out _ hb).at_ hlt
        cases hs
        obtain ⟨la, lc, rfl⟩ := ro.form
        have hmem := tot_mem (List.getElem_mem hlt)
        have hto := toFun_any fs[k].f _ fs[k].os wr ro (by omega)
        have hkl : (k : Int) < (fs.length : Int) := by omega
        have HT := Lib.hid hto
        have HO := Lib.hid ho
        have HI := Lib.hid hin
        have HP := Lib.hid hpw
        have HB := Lib.hid hb
        have hbz := hb.size
        clear hto ho hin hpw hb ro hmem
        go_wp2_with fail
        refine HT.out.mono ?_
        rintro e w2 ⟨v2, rfl, o2, b2⟩
        obtain ⟨a2, c2, rfl⟩ := own_form o2
        have ho := own_below HO.out b2 (own_lt HO.out)
        have hrl : (flat encFV fl ++ xs.drop (k * 2)).length = fs.length * 2 := by
          rw [List.length_append, flat_len encFV_len, hfl.out, List.length_drop, HL.out]; omega
        have d0 := own_cellN ho (k * 2) (by omega)
        have d1 := own_cellN ho (k * 2 + 1) (by omega)
        rw [List.getElem?_eq_getElem (by omega)] at d0 d1
        have f0 := own_frozen ho (k * 2)
        have f1 := own_frozen ho (k * 2 + 1)
        have b3 := b2.mono hbz
        have ho3 := own_setN (own_setN ho (k * 2) (by omega) (.int .i64 fs[k].f)) (k * 2 + 1) (by omega) (.slice a2 fs[k].os.length c2)
        rw [flatF_set hfl.out HL.out hlt] at ho3
        have hin3 : ∀ j (h : j < (fl ++ [(fs[k].f, Value.slice a2 fs[k].os.length c2)]).length) (h' : j < fs.length), (fl ++ [(fs[k].f, Value.slice a2 fs[k].os.length c2)])[j].1 = fs[j].f ∧
            ((w2.setCell ⟨w.heap.size, k * 2, none⟩ (.int .i64 fs[k].f)).setCell ⟨w.heap.size, k * 2 + 1, none⟩ (.slice a2 fs[k].os.length c2)).ownsRow (w.heap.size + 1) 74 3 (fl ++ [(fs[k].f, Value.slice a2 fs[k].os.length c2)])[j].2 fs[j].os.length (flat O3.enc fs[j].os) := by
          intro j h h'
          have hset : ∀ {u : Value} {n : Nat} {ys : List Value}, w2.ownsRow (w.heap.size + 1) 74 3 u n ys → ((w2.setCell ⟨w.heap.size, k * 2, none⟩ (.int .i64 fs[k].f)).setCell ⟨w.heap.size, k * 2 + 1, none⟩ (.slice a2 fs[k].os.length c2)).ownsRow (w.heap.size + 1) 74 3 u n ys := fun h =>
            ownsRow_setCell_below (ownsRow_setCell_below h (by show w.heap.size < _; omega) _) (by show w.heap.size < _; omega) _
          by_cases hj : j < fl.length
          · rw [List.getElem_append_left hj]
            exact ⟨(HI.out j hj h').1, hset (own_below (HI.out j hj h').2 b2 (own_lt (HI.out j hj h').2))⟩
          · have hje : j = k := by simp at h; have := hfl.out; omega
            subst hje
            rw [List.getElem_append_right (by omega)]
            simp only [hfl.out, Nat.sub_self, List.getElem_cons_zero]
            exact ⟨trivial, hset (own_base o2 hgz2)⟩
        have hpw3 : (fl ++ [(fs[k].f, Value.slice a2 fs[k].os.length c2)]).Pairwise (fun x y => Blk x.2 y.2) := by
          rw [List.pairwise_append]
          refine ⟨HP.out, List.pairwise_singleton _ _, fun x hx y hy p q hp hq => ?_⟩
          obtain rfl := List.mem_singleton.1 hy
          obtain ⟨j, hj, rfl⟩ := List.mem_iff_getElem.1 hx
          have h1 := own_lt (HI.out j hj (by have := hfl.out; omega)).2 p hp
          have h2 := (o2.lt q hq).1
          omega
        have HO3 := Lib.hid ho3
        have HI3 := Lib.hid hin3
        have HP3 := Lib.hid hpw3
        have HB3 := Lib.hid (((HB.out.trans b3).setCell (p := ⟨w.heap.size, k * 2, none⟩) (Nat.le_refl _) (.int .i64 fs[k].f)).setCell (p := ⟨w.heap.size, k * 2 + 1, none⟩) (Nat.le_refl _) (.slice a2 fs[k].os.length c2))
        have hsz2 := b2.size
        clear c0 c1 HT HO HI HP HB ho ho3 hin3 hpw3 b2 b3 o2
        go_wp2
        go_roundw
        case rel => exact ⟨k + 1, _, hlt, by go_num, Lib.hid (by rw [List.length_append, hfl.out]; rfl), HO3.out, HI3.out, HP3.out, by simp; omega, HB3.out⟩
        case measure => simp [intOf]; omega
      · obtain rfl : k = fs.length := by omega
        have hown : OwnF w.heap.size wr (.slice (some ⟨w.heap.size, 0, none⟩) fs.length fs.length) fs := by
          refine ⟨fl, ?_, hfl.out, fun j h h' => ⟨(hin j h h').1, own_base (hin j h h').2 (Nat.le_succ _)⟩, fun x hx p q hp hq => ?_, hpw⟩
          · rw [List.drop_eq_nil_of_le (by rw [HL.out]; exact Nat.le_refl _), List.append_nil] at ho
            exact ho
          · have e : w.heap.size = p := Option.some.inj hp
            obtain ⟨j, hj, rfl⟩ := List.mem_iff_getElem.1 hx
            have := ((hin j hj (by have := hfl.out; omega)).2.lt q hq).1
            omega
        have HO := Lib.hid hown
        have HB := Lib.hid hb
        clear hown ho hin hpw hb
        go_wp2
        go_ret
        exact ⟨_, rfl, HO.out, HB.out⟩

end Go.Proofs.Ytlkdlcpfcacigaa

/- szFunS: how much is left. -/
namespace Go.Proofs.Ytlkdlcpfcacigaa
open Go.RowKit
set_option linter.unusedVariables false

set_option maxHeartbeats 800000 in
theorem szFunS_any {B : Nat} (v : Value) (fs : List F2) (left : Int) (w : World) (hr : RdF B w v fs) (h0 : -1 ≤ left) (h1 : left ≤ 4611686018427387904) :
    Calls Try.prog 4 #[v, .int .i64 left] w fun e w' => e = .returned (.int .i64 (szOf (fs.length + tot fs) left)) ∧ Below w.heap.size w w' := by
  have hx := hr.len
  unfold maxLen at hx
  have HR := Lib.hid (fun (W : World) (hb : Below w.heap.size w W) => hr.below' hb)
  obtain ⟨a, cap, rfl⟩ := hr.form
  clear hr
  by_cases hneg : left - fs.length < 0
  · have HF := Lib.hid (show szOf (fs.length + tot fs) left = -1 from if_pos (by omega))
    go_enter Try.func4, Try.ntmps4
    go_wp2
    go_ret
    exact ⟨ret_int HF.out.symm, Below.refl _ _⟩
  · go_enter Try.func4, Try.ntmps4
    go_wp2
    go_loopw [1, 5] (fun l i wr => ∃ k : Nat, ∃ L : Int, k ≤ fs.length ∧ i = .int .i64 k ∧ l = .int .i64 L ∧ Hid (L = left - fs.length - tot (fs.take k)) ∧ 0 ≤ L ∧ L ≤ 4611686018427387904 ∧ Below w.heap.size w wr) (fun _ i _ => fs.length - (intOf i).toNat)
    case atStart => exact ⟨0, _, Nat.zero_le _, rfl, rfl, Lib.hid (by simp [tot]), by omega, by omega, Below.refl _ _⟩
    case round =>
      obtain ⟨k, L, hk, rfl, rfl, hL, hL0, hL1, hb⟩ := hrel
      by_cases hlt : k < fs.length
      · obtain ⟨b, off, cap', lv, hs, hB, hbs, hcap, c0, c1, ro⟩ := (HR.out _ hb).at_ hlt
        cases hs
        obtain ⟨la, lc, rfl⟩ := ro.form
        have hz := szFun_any fs[k].f _ fs[k].os L wr ro (by omega) hL1
        have htk := tot_take hlt
        obtain ⟨Z, hZ⟩ : ∃ Z, szOf fs[k].os.length L = Z := ⟨_, rfl⟩
        rw [hZ] at hz
        have HZ := Lib.hid hz
        have HZZ := Lib.hid hZ
        have HTK := Lib.hid htk
        have BB := Lib.hid hb
        have hkl : (k : Int) < (fs.length : Int) := by omega
        clear hz hZ htk hb ro
        go_wp2_with fail
        refine HZ.out.mono ?_
        rintro e w2 ⟨rfl, b2⟩
        have B2 := Lib.hid (BB.out.trans (b2.mono BB.out.size))
        clear BB b2 c0 c1 HZ
        by_cases hZn : Z < 0
        · go_wp2
          go_ret
          refine ⟨ret_int ?_, B2.out⟩
          have h1 := HZZ.out
          have h2 := hL.out
          have h3 : tot (fs.take (k + 1)) ≤ tot fs := by
            have e : tot fs = tot (fs.take (k + 1)) + tot (fs.drop (k + 1)) := by
              unfold tot
              rw [← List.sum_append, ← List.map_append, List.take_append_drop]
            omega
          have h4 := HTK.out
          unfold szOf at h1 ⊢
          split at h1 <;> rw [if_pos (by omega)] <;> omega
        · go_wp2
          go_roundw
          case rel =>
            have h1 := HZZ.out
            have h2 := hL.out
            have h4 := HTK.out
            unfold szOf at h1
            split at h1
            · omega
            · exact ⟨k + 1, Z, hlt, by go_num, rfl, Lib.hid (by omega), by omega, by omega, B2.out⟩
          case measure => simp [intOf]; omega
      · obtain rfl : k = fs.length := by omega
        rw [List.take_length] at hL
        go_wp2
        go_ret
        refine ⟨ret_int ?_, hb⟩
        have h2 := hL.out
        unfold szOf
        rw [if_neg (by omega)]
        omega

end Go.Proofs.Ytlkdlcpfcacigaa

/- eqFunS: functions are held against themselves. -/
namespace Go.Proofs.Ytlkdlcpfcacigaa
open Go.RowKit
set_option linter.unusedVariables false

set_option maxHeartbeats 800000 in
theorem eqFunS_same {B1 B2 : Nat} (va vb : Value) (fs : List F2) (w : World) (ha : RdF B1 w va fs) (hb : RdF B2 w vb fs) :
    Calls Try.prog 9 #[va, vb] w fun e w' => e = .returned (.bool true) ∧ Below w.heap.size w w' := by
  have hx := ha.len
  unfold maxLen at hx
  have HA := Lib.hid (fun (W : World) (h : Below w.heap.size w W) => ha.below' h)
  have HB := Lib.hid (fun (W : World) (h : Below w.heap.size w W) => hb.below' h)
  obtain ⟨a1, cap1, rfl⟩ := ha.form
  obtain ⟨a2, cap2, rfl⟩ := hb.form
  clear ha hb
  go_enter Try.func9, Try.ntmps9
  go_wp2
  go_loopw [5] (fun i wr => ∃ k : Nat, k ≤ fs.length ∧ i = .int .i64 k ∧ Below w.heap.size w wr) (fun i _ => fs.length - (intOf i).toNat)
  case atStart => exact ⟨0, Nat.zero_le _, rfl, Below.refl _ _⟩
  case round =>
    obtain ⟨k, hk, rfl, hb⟩ := hrel
    by_cases hlt : k < fs.length
    · obtain ⟨b, off, cap', lv, hs, hB, hbs, hcap, c0, c1, ro⟩ := (HA.out _ hb).at_ hlt
      cases hs
      obtain ⟨b', off', cap'', lv', hs', hB', hbs', hcap', d0, d1, ro'⟩ := (HB.out _ hb).at_ hlt
      cases hs'
      obtain ⟨la, lc, rfl⟩ := ro.form
      obtain ⟨la', lc', rfl⟩ := ro'.form
      have hkl : (k : Int) < (fs.length : Int) := by omega
      have hc := fun (W : World) (h : Below wr.heap.size wr W) => eqFun_same fs[k].f _ _ fs[k].os W (RdE.below' ro h) (RdE.below' ro' h)
      have HC := Lib.hid hc
      have BB := Lib.hid hb
      clear hc ro ro' hb
      go_wp2_with fail
      go_region_held3 (fun w' => w'.cell? ⟨b, off + k * 2, none⟩ = some (.int .i64 fs[k].f) ∧ w'.cell? ⟨b, off + k * 2 + 1, none⟩ = some (.slice la fs[k].os.length lc) ∧ w'.cell? ⟨b', off' + k * 2, none⟩ = some (.int .i64 fs[k].f) ∧ w'.cell? ⟨b', off' + k * 2 + 1, none⟩ = some (.slice la' fs[k].os.length lc'))
        (first | (go_split_ands; refine ⟨?_, ?_, ?_, ?_⟩ <;> (refine (b9.cell (by simp only [World.size_drew]; omega)).trans ?_; with_reducible assumption)) | (go_keep; done)) (first | (go_at_call 26; refine (HC.out _ ((Below.refl _ _).drew)).mono ?_; rintro e w9 ⟨hu, b9⟩; subst hu))
      have B9 := Lib.hid (BB.out.trans ((((Below.refl _ _).drew).trans b9).mono BB.out.size))
      clear b9 BB c0 c1 d0 d1 HC
      go_wp2
      go_roundw
      case rel => exact ⟨k + 1, hlt, by go_num, B9.out⟩
      case measure => simp [intOf]; omega
    · go_wp2
      go_ret
      exact ⟨rfl, hb⟩

end Go.Proofs.Ytlkdlcpfcacigaa
