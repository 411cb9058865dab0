import Derived.Test.YtlkdlcpfcacigaaOwnH
import Derived.IntWalk
import Derived.Test.YtlkdlcpfcacigaaMgFunE
/- markOpS, heldOpS, markFunS, heldFunS: rows of functions are marked; their marks are looked for. -/
namespace Go.Proofs.Ytlkdlcpfcacigaa
open Go.RowKit
set_option linter.unusedVariables false
set_option linter.unusedSimpArgs false

def mO (s : Int) (i : Nat) : O3 := ⟨s + 3 * i, s + 3 * i + 1, s + 3 * i + 2⟩
def mOps (s : Int) (n : Nat) : List O3 := (List.range n).map (mO s)
theorem mOps_len (s : Int) (n : Nat) : (mOps s n).length = n := by simp [mOps]
theorem mOps_get (s : Int) (n i : Nat) (h : i < (mOps s n).length) : (mOps s n)[i] = mO s i := by simp [mOps]

set_option maxHeartbeats 800000 in
theorem markOpS_any {base : Nat} (v : Value) (os : List O3) (s : Int) (w : World) (hown : w.ownsRow base 74 3 v os.length (flat O3.enc os)) (h0 : 0 ≤ s) (h1 : s + 3 * (os.length : Int) ≤ 4611686018427387904) :
    Calls Try.prog 27 #[v, .int .i64 s] w fun e w' => e = .returned (.int .i64 (s + 3 * os.length)) ∧ w'.ownsRow base 74 3 v os.length (flat O3.enc (mOps s os.length)) ∧ w.grownBy w' v.ownBlock := by
  obtain ⟨n, hn⟩ : ∃ n, os.length = n := ⟨_, rfl⟩
  have hfl : (flat O3.enc os).length = n * 3 := by rw [flat_len O3.enc_len, hn]
  obtain ⟨ys, hys⟩ : ∃ ys, flat O3.enc os = ys := ⟨_, rfl⟩
  rw [hn, hys] at hown
  rw [hys] at hfl
  rw [hn] at h1 ⊢
  have hml := mOps_len s n
  obtain ⟨ms, hms⟩ : ∃ ms, mOps s n = ms := ⟨_, rfl⟩
  rw [hms] at hml ⊢
  have HM := Lib.hid (fun (i : Nat) (h : i < n) => (show ms[i]? = some (mO s i) by rw [← hms, List.getElem?_eq_getElem (by rw [mOps_len]; exact h), mOps_get]))
  have HL := Lib.hid hml
  have HF := Lib.hid hfl
  clear hn hys hms hml hfl
  rcases hown.2 with ⟨rfl, rfl⟩ | ⟨g, cap, cur, rfl, _, _, _, _, _, _⟩
  · go_enter Try.func27, Try.ntmps27
    go_wp2
    refine wp_loop_rounds 1 ?_
    rw [rounds_succ]
    go_wp2
    go_ret
    obtain rfl := List.eq_nil_of_length_eq_zero HL.out
    exact ⟨ret_int (by simp), World.ownsRow_nil _ _ _ _, grownBy.refl _ _⟩
  · go_enter Try.func27, Try.ntmps27
    go_wp2
    go_loopw [1, 5] (fun q i wr => ∃ k : Nat, k ≤ n ∧ i = .int .i64 k ∧ q = .int .i64 (s + 3 * k) ∧ wr.ownsRow base 74 3 (.slice (some ⟨g, 0, none⟩) n cap) n (rowE O3.enc 3 ms ys k) ∧ w.grownBy wr (some g)) (fun _ i _ => n - (intOf i).toNat)
    case atStart => exact ⟨0, Nat.zero_le _, rfl, by go_num, by rw [rowE_zero]; exact hown, grownBy.refl _ _⟩
    case round =>
      obtain ⟨k, hk, rfl, rfl, ho, hg⟩ := hrel
      by_cases hlt : k < n
      · have hrl : (rowE O3.enc 3 ms ys k).length = n * 3 := by have := rowE_len O3.enc_len (xs := ms) (ys := ys) (by rw [HF.out, HL.out]) (k := k) (by rw [HL.out]; exact hk); rw [HL.out] at this; exact this
        have d0 := own_cellN ho (k * 3) (by omega)
        have d1 := own_cellN ho (k * 3 + 1) (by omega)
        have d2 := own_cellN ho (k * 3 + 2) (by omega)
        rw [List.getElem?_eq_getElem (by omega)] at d0 d1 d2
        have f0 := own_frozen ho (k * 3)
        have f1 := own_frozen ho (k * 3 + 1)
        have f2 := own_frozen ho (k * 3 + 2)
        have hki : (k : Int) < (n : Int) := by omega
        have HO := Lib.hid ho
        clear ho
        go_wp2
        go_roundw
        case rel =>
          refine ⟨k + 1, hlt, by go_num, by go_num, ?_, grownBy.trans (grownBy.trans (grownBy.trans hg (grownBy.setCell _ _ _ _)) (grownBy.setCell _ _ _ _)) (grownBy.setCell _ _ _ _)⟩
          have hst := rowE_set3 (ys := ys) O3.enc_len (by rw [HF.out, HL.out]) (HM.out k hlt) (x := mO s k) (a := .int .i64 (s + 3 * (k : Int))) (b := .int .i64 (s + 3 * (k : Int) + 1)) (c := .int .i64 (s + 3 * (k : Int) + 2)) rfl
          rw [← hst, show s + 3 * (k : Int) + 1 + 1 = s + 3 * (k : Int) + 2 from by omega]
          exact own_setN (own_setN (own_setN HO.out (k * 3) (by omega) _) (k * 3 + 1) (by omega) _) (k * 3 + 2) (by omega) _
        case measure => simp [intOf]; omega
      · obtain rfl : k = n := by omega
        go_wp2
        go_ret
        refine ⟨rfl, ?_, hg⟩
        have := rowE_all (enc := O3.enc) (size := 3) (xs := ms) (ys := ys) (by rw [HF.out, HL.out])
        rw [HL.out] at this
        rw [← this]
        exact ho

set_option maxHeartbeats 800000 in
theorem heldOpS_any {B n : Nat} (v : Value) (s : Int) (w : World) (hr : RdO B w v (mOps s n)) (h0 : 0 ≤ s) (h1 : s + 3 * (n : Int) ≤ 4611686018427387904) :
    Calls Try.prog 51 #[v, .int .i64 s] w fun e w' => e = .returned (.int .i64 (s + 3 * n)) ∧ w = w' := by
  have hml := mOps_len s n
  have HR := Lib.hid hr
  obtain ⟨a, cap, hv⟩ := hr.form
  rw [hml] at hv
  subst hv
  clear hr
  have HL := Lib.hid hml
  clear hml
  go_enter Try.func51, Try.ntmps51
  go_wp2
  go_loop [1, 5] (fun q i => ∃ k : Nat, k ≤ n ∧ i = .int .i64 k ∧ q = .int .i64 (s + 3 * k)) (fun _ i => n - (intOf i).toNat)
  case atStart => exact ⟨0, Nat.zero_le _, rfl, by go_num⟩
  case round =>
    obtain ⟨k, hk, rfl, rfl⟩ := hrel
    by_cases hlt : k < n
    · obtain ⟨b, off, cap', hs, _, hbs, _, c0, c1, c2⟩ := RdO.at_ HR.out (show k < _ by rw [HL.out]; exact hlt)
      rw [mOps_get] at c0 c1 c2
      unfold mO at c0 c1 c2
      rw [HL.out] at hs
      cases hs
      dsimp only at c0 c1 c2
      have hki : (k : Int) < (n : Int) := by omega
      go_wp2
      go_round
      case rel => exact ⟨k + 1, hlt, by go_num, by go_num⟩
      case measure => simp [intOf]; omega
    · obtain rfl : k = n := by omega
      go_wp2
      go_ret
      exact ⟨rfl, rfl⟩

theorem tot_take_le (fs : List F2) (k : Nat) : tot (fs.take k) ≤ tot fs := by
  conv => rhs; rw [← List.take_append_drop k fs]
  unfold tot
  simp only [List.map_append, List.sum_append]
  omega
/-- how many marks lie ahead of the k-th function. -/
def offF (fs : List F2) (k : Nat) : Int := (k : Int) + 3 * (tot (fs.take k) : Int)
def mFn (s : Int) (fs : List F2) (k : Nat) : F2 := ⟨s + offF fs k, mOps (s + offF fs k + 1) (fs.getD k ⟨0, []⟩).os.length⟩
/-- the first k are marked. -/
def mixF (s : Int) (fs : List F2) (k : Nat) : List F2 := (List.range fs.length).map fun j => if j < k then mFn s fs j else fs.getD j ⟨0, []⟩
def mFuns (s : Int) (fs : List F2) : List F2 := mixF s fs fs.length
theorem mixF_len (s : Int) (fs : List F2) (k : Nat) : (mixF s fs k).length = fs.length := by simp [mixF]
theorem mixF_zero (s : Int) (fs : List F2) : mixF s fs 0 = fs := by
  refine List.ext_getElem (mixF_len s fs 0) fun i h1 h2 => ?_
  simp [mixF, List.getD_eq_getElem?_getD, List.getElem?_eq_getElem h2]
theorem mixF_get (s : Int) (fs : List F2) (k j : Nat) (h : j < (mixF s fs k).length) : (mixF s fs k)[j] = if j < k then mFn s fs j else fs.getD j ⟨0, []⟩ := by simp [mixF]
theorem mixF_set (s : Int) (fs : List F2) (k : Nat) (hk : k < fs.length) : (mixF s fs k).set k (mFn s fs k) = mixF s fs (k + 1) := by
  refine List.ext_getElem (by simp [mixF]) fun i h1 h2 => ?_
  rw [List.getElem_set, mixF_get s fs (k + 1)]
  by_cases h : k = i
  · subst h
    rw [if_pos rfl, if_pos (by omega)]
  · rw [if_neg h, mixF_get s fs k]
    by_cases h3 : i < k
    · rw [if_pos h3, if_pos (by omega)]
    · rw [if_neg h3, if_neg (by omega)]
theorem offF_step {fs : List F2} {k : Nat} (hk : k < fs.length) : offF fs (k + 1) = offF fs k + 1 + 3 * ((fs.getD k ⟨0, []⟩).os.length : Int) := by
  unfold offF
  rw [tot_take hk, List.getD_eq_getElem?_getD, List.getElem?_eq_getElem hk]
  simp only [Option.getD_some]
  omega
theorem offF_nonneg (fs : List F2) (k : Nat) : 0 ≤ offF fs k := by unfold offF; omega
theorem offF_all (fs : List F2) : offF fs fs.length = (fs.length : Int) + 3 * (tot fs : Int) := by unfold offF; rw [List.take_of_length_le (Nat.le_refl _)]

/-- all but what lies from base up to hi stays as it was. -/
structure Out (base hi : Nat) (w w' : World) : Prop where
  os : w'.os = w.os
  tape : w'.tape = w.tape
  output : w'.output = w.output
  size : w.heap.size ≤ w'.heap.size
  block : ∀ q, q < w.heap.size → (q < base ∨ hi ≤ q) → w'.heap[q]? = w.heap[q]?
theorem Out.refl (base hi : Nat) (w : World) : Out base hi w w := ⟨rfl, rfl, rfl, Nat.le_refl _, fun _ _ _ => rfl⟩
theorem Out.grown {base hi : Nat} {w w' w'' : World} {row : Option Nat} (h : Out base hi w w') (g : w'.grownBy w'' row) (hr : ∀ q, row = some q → base ≤ q ∧ q < hi) : Out base hi w w'' :=
  ⟨g.os.trans h.os, g.tape.trans h.tape, g.output.trans h.output, Nat.le_trans h.size g.size, fun q h1 h2 => (g.block q (Nat.lt_of_lt_of_le h1 h.size) (fun e => by have := hr q e.symm; omega)).trans (h.block q h1 h2)⟩
theorem Out.below {base hi : Nat} {w w' : World} (h : Out base hi w w') {B : Nat} (hb : B ≤ base) (hB : B ≤ w.heap.size) : Below B w w' :=
  ⟨h.os, h.tape, h.output, h.size, fun q hq => h.block q (by omega) (.inl (by omega))⟩

theorem flat_set {α : Type} {enc : α → List Value} {xs : List α} {k : Nat} {x : α} (h : k < xs.length) : (xs.set k x).flatMap enc = (xs.take k).flatMap enc ++ (enc x ++ (xs.drop (k + 1)).flatMap enc) := by
  rw [List.set_eq_take_append_cons_drop, if_pos h, List.flatMap_append, List.flatMap_cons]
theorem flatF_put {fl : List (Int × Value)} {k : Nat} (hk : k < fl.length) (a : Int) : (flat encFV fl).set (k * 2) (.int .i64 a) = flat encFV (fl.set k (a, fl[k].2)) := by
  have h1 : flat encFV fl = (fl.take k).flatMap encFV ++ (encFV fl[k] ++ (fl.drop (k + 1)).flatMap encFV) := by
    have := flat_set (enc := encFV) (x := fl[k]) hk
    rw [List.set_getElem_self] at this
    exact this
  have hl : ((fl.take k).flatMap encFV).length = k * 2 := by
    have := flat_len encFV_len (fl.take k)
    unfold flat at this
    rw [this, List.length_take, Nat.min_eq_left (by omega)]
  rw [h1, List.set_append_right _ _ (by omega), hl, Nat.sub_self]
  unfold flat
  rw [flat_set hk]
  rfl
/-- one function of a row: its mark is laid, its places turned. -/
theorem OwnH.turn {base hi : Nat} {w : World} {v : Value} {fs : List F2} (h : OwnH base hi w v fs) {k : Nat} (hk : k < fs.length) (hhi : hi ≤ w.heap.size) : ∃ (g cap : Nat) (u : Value), v = .slice (some ⟨g, 0, none⟩) fs.length cap ∧ (base ≤ g ∧ g < hi) ∧ (∃ c, w.cell? ⟨g, k * 2, none⟩ = some c) ∧ w.cell? ⟨g, k * 2 + 1, none⟩ = some u ∧
    w.frozen? ⟨g, k * 2, none⟩ = false ∧ (∀ q, u.ownBlock = some q → base ≤ q ∧ q < hi) ∧ (∃ ua uc, u = .slice ua fs[k].os.length uc) ∧ ∀ (a : Int), (w.setCell ⟨g, k * 2, none⟩ (.int .i64 a)).ownsRow base 74 3 u fs[k].os.length (flat O3.enc fs[k].os) ∧
    ∀ (os' : List O3) (W' : World), os'.length = fs[k].os.length → (w.setCell ⟨g, k * 2, none⟩ (.int .i64 a)).grownBy W' u.ownBlock → W'.ownsRow base 74 3 u os'.length (flat O3.enc os') → OwnH base hi W' v (fs.set k ⟨a, os'⟩) := by
  obtain ⟨fl, ⟨h1, h2, h3, h4, h5⟩, h6, h7⟩ := h
  have hkf : k < fl.length := by omega
  have hv : ∃ g cap, v = .slice (some ⟨g, 0, none⟩) fs.length cap := by
    rcases h1.2 with ⟨_, h0⟩ | ⟨g, cap, cur, hv, _⟩
    · omega
    · exact ⟨g, cap, hv⟩
  obtain ⟨g, cap, rfl⟩ := hv
  have hgb := (h1.lt g rfl).1
  have hgh := h6 g rfl
  have hlen : (flat encFV fl).length = fl.length * 2 := flat_len encFV_len fl
  have e0 := own_cellN h1 (k * 2) (by omega)
  have e1 := own_cellN h1 (k * 2 + 1) (by omega)
  rw [flat_at encFV_len fl k _ (List.getElem?_eq_getElem hkf) 1 (by decide)] at e1
  rw [List.getElem?_eq_getElem (by omega)] at e0
  have hu := (h3 k hkf hk).2
  have hne : fl[k].2.ownBlock ≠ some g := fun hq => h4 _ (List.getElem_mem hkf) g g rfl hq rfl
  refine ⟨g, cap, fl[k].2, rfl, ⟨hgb, hgh⟩, ⟨_, e0⟩, e1, own_frozen h1 _, fun q hq => ⟨(hu.lt q hq).1, h7 _ (List.getElem_mem hkf) q hq⟩, own_form hu, fun a => ?_⟩
  have gs := grownBy.setCell w g (k * 2) (.int .i64 a)
  refine ⟨hu.kept gs (.inr hne), fun os' W' hl hg ho => ?_⟩
  have hrow : W'.ownsRow base 52 2 (.slice (some ⟨g, 0, none⟩) fs.length cap) fs.length (flat encFV (fl.set k (a, fl[k].2))) := by
    rw [← flatF_put hkf]
    exact (own_setN h1 (k * 2) (by omega) _).kept hg (.inr (fun hh => hne hh.symm))
  have hoth : ∀ j (h : j < fl.length) (h' : j < fs.length), j ≠ k → W'.ownsRow base 74 3 fl[j].2 fs[j].os.length (flat O3.enc fs[j].os) := by
    intro j a b hj
    have hjg : fl[j].2.ownBlock ≠ some g := fun hq => h4 _ (List.getElem_mem a) g g rfl hq rfl
    refine ((h3 j a b).2.kept gs (.inr hjg)).kept hg ?_
    cases hq : fl[j].2.ownBlock with
    | none => exact .inl rfl
    | some p =>
      refine .inr (fun hh => ?_)
      rcases Nat.lt_or_gt_of_ne hj with hjk | hjk
      · exact (List.pairwise_iff_getElem.1 h5 j k a hkf hjk) p p hq hh.symm rfl
      · exact (List.pairwise_iff_getElem.1 h5 k j hkf a hjk) p p hh.symm hq rfl
  have hmem : ∀ x ∈ fl.set k (a, fl[k].2), ∃ y ∈ fl, x.2 = y.2 := by
    intro x hx
    rcases List.mem_or_eq_of_mem_set hx with hx | rfl
    · exact ⟨x, hx, rfl⟩
    · exact ⟨_, List.getElem_mem hkf, rfl⟩
  refine ⟨fl.set k (a, fl[k].2), ⟨by rw [List.length_set]; exact hrow, by simp [h2], fun j b c => ?_, fun x hx => ?_, ?_⟩, h6, fun x hx q hq => ?_⟩
  · simp only [List.length_set] at b c
    by_cases hj : j = k
    · subst hj
      simp only [List.getElem_set_self]
      exact ⟨trivial, ho⟩
    · simp only [List.getElem_set_ne (fun h => hj h.symm)]
      exact ⟨(h3 j b c).1, hoth j b c hj⟩
  · obtain ⟨y, hy, e⟩ := hmem x hx
    rw [e]
    exact h4 y hy
  · rw [List.pairwise_iff_getElem]
    intro i j hi hj hij
    simp only [List.length_set] at hi hj
    have e : ∀ i (hi : i < fl.length), ((fl.set k (a, fl[k].2))[i]'(by simp; omega)).2 = fl[i].2 := by
      intro i hi
      rw [List.getElem_set]
      split
      · rename_i h; subst h; rfl
      · rfl
    rw [e i hi, e j hj]
    exact List.pairwise_iff_getElem.1 h5 i j hi hj hij
  · obtain ⟨y, hy, e⟩ := hmem x hx
    exact h7 y hy q (e ▸ hq)

set_option maxHeartbeats 1600000 in
theorem markFunS_any {base hi : Nat} (v : Value) (fs : List F2) (s : Int) (w : World) (hown : OwnH base hi w v fs) (hhi : hi ≤ w.heap.size) (h0 : 0 ≤ s) (h1 : s + (fs.length : Int) + 3 * (tot fs : Int) ≤ 4611686018427387904) :
    Calls Try.prog 10 #[v, .int .i64 s] w fun e w' => e = .returned (.int .i64 (s + offF fs fs.length)) ∧ OwnH base hi w' v (mFuns s fs) ∧ Out base hi w w' := by
  obtain ⟨a, cap, rfl⟩ := hown.form
  have HO := Lib.hid (show OwnH base hi w _ (mixF s fs 0) by rw [mixF_zero]; exact hown)
  clear hown
  have hz : offF fs 0 = 0 := by simp [offF, tot]
  have HZ := Lib.hid hz
  clear hz
  go_enter Try.func10, Try.ntmps10
  go_wp2
  go_loopw [1, 5] (fun q i wr => ∃ k : Nat, k ≤ fs.length ∧ i = .int .i64 k ∧ q = .int .i64 (s + offF fs k) ∧ OwnH base hi wr (.slice a fs.length cap) (mixF s fs k) ∧ Out base hi w wr) (fun _ i _ => fs.length - (intOf i).toNat)
  case atStart => exact ⟨0, Nat.zero_le _, rfl, by rw [HZ.out]; go_num, HO.out, Out.refl _ _ _⟩
  case round =>
    clear HO HZ
    obtain ⟨k, hk, rfl, rfl, ho, hg⟩ := hrel
    have hgz := hg.size
    by_cases hlt : k < fs.length
    · have hml := mixF_len s fs k
      obtain ⟨g, cap', u, hv, ⟨hg1, hg2⟩, ⟨c, e0⟩, e1, e2, hub, ⟨ua, uc, hu⟩, hset⟩ := ho.turn (k := k) (by rw [hml]; exact hlt) (by omega)
      rw [mixF_get, if_neg (by omega)] at hu
      simp only [mixF_get, if_neg (Nat.lt_irrefl k)] at hset
      rw [hml] at hv
      cases hv
      have hst := offF_step hlt
      have hnn := offF_nonneg fs k
      have hmono : offF fs (k + 1) ≤ (fs.length : Int) + 3 * (tot fs : Int) := by
        unfold offF
        have := tot_take_le fs (k + 1)
        omega
      obtain ⟨x, hx⟩ : ∃ x, fs.getD k ⟨0, []⟩ = x := ⟨_, rfl⟩
      rw [hx] at hu hset hst
      obtain ⟨O, hO⟩ : ∃ O, offF fs k = O := ⟨_, rfl⟩
      obtain ⟨O2, hO2⟩ : ∃ O, offF fs (k + 1) = O := ⟨_, rfl⟩
      rw [hO, hO2] at hst
      rw [hO] at hnn ⊢
      rw [hO2] at hmono
      have hki : (k : Int) < (fs.length : Int) := by omega
      subst hu
      obtain ⟨hrow, hmake⟩ := hset (s + O)
      have hcall := fun (W : World) (r : W.ownsRow base 74 3 (.slice ua x.os.length uc) x.os.length (flat O3.enc x.os)) => markOpS_any _ x.os (s + O + 1) W r (by omega) (by omega)
      have HC := Lib.hid (hcall _ hrow)
      have HM := Lib.hid hmake
      have HG := Lib.hid hg
      have HS := Lib.hid (show mixF s fs (k + 1) = (mixF s fs k).set k ⟨s + O, mOps (s + O + 1) x.os.length⟩ by rw [← mixF_set s fs k hlt]; unfold mFn; rw [hO, hx])
      have HST := Lib.hid hst
      have HO2 := Lib.hid hO2
      have hne : (Value.slice ua x.os.length uc).ownBlock ≠ some g ∨ True := .inr trivial
      have e9 : IntKind.i64.wrap (s + O + 1) = s + O + 1 := IntWalk.i64_in _ (by omega)
      clear ho hset hmake hrow hcall hg hst hO hO2 hx hml hne
      go_wp2_with fail
      refine HC.out.mono ?_
      rintro e w2 ⟨rfl, o2, g2⟩
      have hgn := (HG.out.grown (grownBy.setCell wr g (k * 2) (.int .i64 (s + O))) (fun q hq => by cases hq; exact ⟨hg1, hg2⟩)).grown g2 hub
      have hon := HM.out (mOps (s + O + 1) x.os.length) w2 (mOps_len _ _) g2 (by rw [mOps_len]; exact o2)
      rw [← HS.out] at hon
      have hsum : s + O + 1 + 3 * (x.os.length : Int) = s + O2 := by have := HST.out; omega
      have HSU := Lib.hid hsum
      clear HC HM HG o2 g2 hsum e0 e1 e2 hub HST HS
      rw [HSU.out]
      go_wp2
      go_roundw
      case rel => exact ⟨k + 1, hlt, by go_num, by rw [HO2.out], hon, hgn⟩
      case measure => simp [intOf]; omega
    · obtain rfl : k = fs.length := by omega
      go_wp2
      go_ret
      exact ⟨rfl, ho, hg⟩

set_option maxHeartbeats 1600000 in
theorem heldFunS_any {B : Nat} (v : Value) (fs : List F2) (s : Int) (w : World) (hr : RdF B w v (mFuns s fs)) (h0 : 0 ≤ s) (h1 : s + (fs.length : Int) + 3 * (tot fs : Int) ≤ 4611686018427387904) :
    Calls Try.prog 31 #[v, .int .i64 s] w fun e w' => e = .returned (.int .i64 (s + offF fs fs.length)) ∧ w = w' := by
  have hml : (mFuns s fs).length = fs.length := mixF_len s fs _
  have HR := Lib.hid hr
  obtain ⟨a, cap, hv⟩ := hr.form
  rw [hml] at hv
  subst hv
  have hz : offF fs 0 = 0 := by simp [offF, tot]
  have HZ := Lib.hid hz
  have HL := Lib.hid hml
  clear hr hz hml
  go_enter Try.func31, Try.ntmps31
  go_wp2
  go_loop [1, 5] (fun q i => ∃ k : Nat, k ≤ fs.length ∧ i = .int .i64 k ∧ q = .int .i64 (s + offF fs k)) (fun _ i => fs.length - (intOf i).toNat)
  case atStart => exact ⟨0, Nat.zero_le _, rfl, by rw [HZ.out]; go_num⟩
  case round =>
    obtain ⟨k, hk, rfl, rfl⟩ := hrel
    by_cases hlt : k < fs.length
    · obtain ⟨b, off, cap', lv, hs, _, hbs, _, c0, c1, ro⟩ := HR.out.at_ (show k < _ by rw [HL.out]; exact hlt)
      have hg : (mFuns s fs)[k]'(by rw [HL.out]; exact hlt) = mFn s fs k := by unfold mFuns; rw [mixF_get, if_pos hlt]
      rw [hg] at c0 ro
      rw [HL.out] at hs
      unfold mFn at c0 ro
      cases hs
      dsimp only at c0 ro
      have hst := offF_step hlt
      have hnn := offF_nonneg fs k
      have hmono : offF fs (k + 1) ≤ (fs.length : Int) + 3 * (tot fs : Int) := by
        unfold offF
        have := tot_take_le fs (k + 1)
        omega
      obtain ⟨x, hx⟩ : ∃ x, fs.getD k ⟨0, []⟩ = x := ⟨_, rfl⟩
      rw [hx] at hst ro
      obtain ⟨O, hO⟩ : ∃ O, offF fs k = O := ⟨_, rfl⟩
      obtain ⟨O2, hO2⟩ : ∃ O, offF fs (k + 1) = O := ⟨_, rfl⟩
      rw [hO, hO2] at hst
      rw [hO] at hnn c0 ro ⊢
      rw [hO2] at hmono
      have hki : (k : Int) < (fs.length : Int) := by omega
      have HC := Lib.hid (heldOpS_any _ (s + O + 1) w ro (by omega) (by omega))
      obtain ⟨ua, uc, hu⟩ := RdE.form ro
      rw [mOps_len] at hu
      subst hu
      have HSU := Lib.hid (show s + O + 1 + 3 * (x.os.length : Int) = s + O2 by omega)
      have HO2 := Lib.hid hO2
      have e8 : 0 ≤ s + O2 := by omega
      have e9 : IntKind.i64.wrap (s + O + 1) = s + O + 1 := IntWalk.i64_in _ (by omega)
      clear hx hO hO2 hst ro hg
      go_wp2_with fail
      refine HC.out.mono ?_
      rintro e w2 ⟨rfl, rfl⟩
      rw [HSU.out]
      clear c0 c1 HC HSU
      go_wp2
      go_round
      case rel => exact ⟨k + 1, hlt, by go_num, by rw [HO2.out]⟩
      case measure => simp [intOf]; omega
    · obtain rfl : k = fs.length := by omega
      go_wp2
      go_ret
      exact ⟨rfl, rfl⟩

end Go.Proofs.Ytlkdlcpfcacigaa

/- markCallS and heldCallS of the laws. -/
namespace Go.Proofs.Ytlkdlcpfcacigaa
open Go.RowKit
set_option linter.unusedVariables false
set_option linter.unusedSimpArgs false

set_option maxHeartbeats 800000 in
theorem markCallS_any {base : Nat} (v : Value) (os : List O3) (s : Int) (w : World) (hown : w.ownsRow base 48 3 v os.length (flat O3.enc os)) (h0 : 0 ≤ s) (h1 : s + 3 * (os.length : Int) ≤ 4611686018427387904) :
    Calls Try.prog 30 #[v, .int .i64 s] w fun e w' => e = .returned (.int .i64 (s + 3 * os.length)) ∧ w'.ownsRow base 48 3 v os.length (flat O3.enc (mOps s os.length)) ∧ w.grownBy w' v.ownBlock := by
  obtain ⟨n, hn⟩ : ∃ n, os.length = n := ⟨_, rfl⟩
  have hfl : (flat O3.enc os).length = n * 3 := by rw [flat_len O3.enc_len, hn]
  obtain ⟨ys, hys⟩ : ∃ ys, flat O3.enc os = ys := ⟨_, rfl⟩
  rw [hn, hys] at hown
  rw [hys] at hfl
  rw [hn] at h1 ⊢
  have hml := mOps_len s n
  obtain ⟨ms, hms⟩ : ∃ ms, mOps s n = ms := ⟨_, rfl⟩
  rw [hms] at hml ⊢
  have HM := Lib.hid (fun (i : Nat) (h : i < n) => (show ms[i]? = some (mO s i) by rw [← hms, List.getElem?_eq_getElem (by rw [mOps_len]; exact h), mOps_get]))
  have HL := Lib.hid hml
  have HF := Lib.hid hfl
  clear hn hys hms hml hfl
  rcases hown.2 with ⟨rfl, rfl⟩ | ⟨g, cap, cur, rfl, _, _, _, _, _, _⟩
  · go_enter Try.func30, Try.ntmps30
    go_wp2
    refine wp_loop_rounds 1 ?_
    rw [rounds_succ]
    go_wp2
    go_ret
    obtain rfl := List.eq_nil_of_length_eq_zero HL.out
    exact ⟨ret_int (by simp), World.ownsRow_nil _ _ _ _, grownBy.refl _ _⟩
  · go_enter Try.func30, Try.ntmps30
    go_wp2
    go_loopw [1, 5] (fun q i wr => ∃ k : Nat, k ≤ n ∧ i = .int .i64 k ∧ q = .int .i64 (s + 3 * k) ∧ wr.ownsRow base 48 3 (.slice (some ⟨g, 0, none⟩) n cap) n (rowE O3.enc 3 ms ys k) ∧ w.grownBy wr (some g)) (fun _ i _ => n - (intOf i).toNat)
    case atStart => exact ⟨0, Nat.zero_le _, rfl, by go_num, by rw [rowE_zero]; exact hown, grownBy.refl _ _⟩
    case round =>
      obtain ⟨k, hk, rfl, rfl, ho, hg⟩ := hrel
      by_cases hlt : k < n
      · have hrl : (rowE O3.enc 3 ms ys k).length = n * 3 := by have := rowE_len O3.enc_len (xs := ms) (ys := ys) (by rw [HF.out, HL.out]) (k := k) (by rw [HL.out]; exact hk); rw [HL.out] at this; exact this
        have d0 := own_cellN ho (k * 3) (by omega)
        have d1 := own_cellN ho (k * 3 + 1) (by omega)
        have d2 := own_cellN ho (k * 3 + 2) (by omega)
        rw [List.getElem?_eq_getElem (by omega)] at d0 d1 d2
        have f0 := own_frozen ho (k * 3)
        have f1 := own_frozen ho (k * 3 + 1)
        have f2 := own_frozen ho (k * 3 + 2)
        have hki : (k : Int) < (n : Int) := by omega
        have HO := Lib.hid ho
        clear ho
        go_wp2
        go_roundw
        case rel =>
          refine ⟨k + 1, hlt, by go_num, by go_num, ?_, grownBy.trans (grownBy.trans (grownBy.trans hg (grownBy.setCell _ _ _ _)) (grownBy.setCell _ _ _ _)) (grownBy.setCell _ _ _ _)⟩
          have hst := rowE_set3 (ys := ys) O3.enc_len (by rw [HF.out, HL.out]) (HM.out k hlt) (x := mO s k) (a := .int .i64 (s + 3 * (k : Int))) (b := .int .i64 (s + 3 * (k : Int) + 1)) (c := .int .i64 (s + 3 * (k : Int) + 2)) rfl
          rw [← hst, show s + 3 * (k : Int) + 1 + 1 = s + 3 * (k : Int) + 2 from by omega]
          exact own_setN (own_setN (own_setN HO.out (k * 3) (by omega) _) (k * 3 + 1) (by omega) _) (k * 3 + 2) (by omega) _
        case measure => simp [intOf]; omega
      · obtain rfl : k = n := by omega
        go_wp2
        go_ret
        refine ⟨rfl, ?_, hg⟩
        have := rowE_all (enc := O3.enc) (size := 3) (xs := ms) (ys := ys) (by rw [HF.out, HL.out])
        rw [HL.out] at this
        rw [← this]
        exact ho

set_option maxHeartbeats 800000 in
theorem heldCallS_any {B n : Nat} (v : Value) (s : Int) (w : World) (hr : RdE O3.enc 3 B w v (mOps s n)) (h0 : 0 ≤ s) (h1 : s + 3 * (n : Int) ≤ 4611686018427387904) :
    Calls Try.prog 34 #[v, .int .i64 s] w fun e w' => e = .returned (.int .i64 (s + 3 * n)) ∧ w = w' := by
  have hml := mOps_len s n
  have HR := Lib.hid hr
  obtain ⟨a, cap, hv⟩ := hr.form
  rw [hml] at hv
  subst hv
  clear hr
  have HL := Lib.hid hml
  clear hml
  go_enter Try.func34, Try.ntmps34
  go_wp2
  go_loop [1, 5] (fun q i => ∃ k : Nat, k ≤ n ∧ i = .int .i64 k ∧ q = .int .i64 (s + 3 * k)) (fun _ i => n - (intOf i).toNat)
  case atStart => exact ⟨0, Nat.zero_le _, rfl, by go_num⟩
  case round =>
    obtain ⟨k, hk, rfl, rfl⟩ := hrel
    by_cases hlt : k < n
    · obtain ⟨b, off, cap', hs, _, hbs, _, c0, c1, c2⟩ := RdO.at_ HR.out (show k < _ by rw [HL.out]; exact hlt)
      rw [mOps_get] at c0 c1 c2
      unfold mO at c0 c1 c2
      rw [HL.out] at hs
      cases hs
      dsimp only at c0 c1 c2
      have hki : (k : Int) < (n : Int) := by omega
      go_wp2
      go_round
      case rel => exact ⟨k + 1, hlt, by go_num, by go_num⟩
      case measure => simp [intOf]; omega
    · obtain rfl : k = n := by omega
      go_wp2
      go_ret
      exact ⟨rfl, rfl⟩

end Go.Proofs.Ytlkdlcpfcacigaa
