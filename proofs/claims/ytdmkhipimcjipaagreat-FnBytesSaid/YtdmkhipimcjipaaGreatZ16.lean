/- Parts of the proof of FnBytes. -/
import Derived.Test.YtdmkhipimcjipaaGreatZ15
import Derived.Test.YtdmkhipimcjipaaGreatZ14
import Derived.IntWalk
import Derived.Test.YtdmkhipimcjipaaGreatZ13
import Derived.Test.YtdmkhipimcjipaaGreatRows
import Derived.Deep.QuietTactic
import Derived.BigQuiet
import Derived.Laws.BytesArg
set_option linter.unusedVariables false
set_option linter.unusedSimpArgs false
section
namespace Go.Proofs.YtdmkhipimcjipaaGreat
open Go.RowKit
set_option linter.unusedVariables false
set_option linter.unusedSimpArgs false
theorem putN_len5 (n : Nat) (h : n ≤ 2147483647) : (putN n).length ≤ 5 := by
  have s : ∀ m, m ≤ 127 → (putN m).length ≤ 1 := fun m hm => by rw [putN_small (by omega)]; simp
  have g : ∀ (b c : Nat), (∀ m, m ≤ c → (putN m).length ≤ b) → ∀ m, m ≤ 128 * c + 127 → (putN m).length ≤ b + 1 := by
    intro b c hb m hm
    by_cases h : 127 < m
    · rw [putN_big h, List.length_cons]
      have := hb (m / 128) (by omega)
      omega
    · rw [putN_small h]; simp
  exact g _ _ (g _ _ (g _ _ (g _ _ s))) n (by omega)
theorem putNum_len5 (n : Int) : (putNum n).length ≤ 5 := by
  unfold putNum
  cases hw : inB n 0 2147483647
  · simp
  · have := inB_true.1 hw
    simpa using putN_len5 n.toNat (by omega)
theorem putNum_pos (n : Int) (h : inB n 0 2147483647 = true) : 1 ≤ (putNum n).length := by
  unfold putNum
  rw [if_pos h]
  by_cases h2 : 127 < n.toNat
  · rw [putN_big h2]; simp
  · rw [putN_small h2]; simp
theorem putN_in (n : Nat) : ∀ x ∈ putN n, 0 ≤ x ∧ x ≤ 255 := by
  induction n using Nat.strongRecOn with
  | _ n ih =>
    intro x hx
    by_cases h : 127 < n
    · rw [putN_big h, List.mem_cons] at hx
      rcases hx with rfl | hx
      · omega
      · exact ih _ (by omega) x hx
    · rw [putN_small h, List.mem_singleton] at hx
      omega
theorem putNum_in (n : Int) : ∀ x ∈ putNum n, 0 ≤ x ∧ x ≤ 255 := by
  intro x hx
  unfold putNum at hx
  split at hx
  · exact putN_in _ x hx
  · simp at hx
def opBytes (o : O3) : List Int := putNum o.c ++ (putNum (o.n + 1073741824) ++ putNum o.m)
def fnBytes (x : F2) : List Int := (putNum x.f ++ putNum (x.os.length : Int)) ++ x.os.flatMap opBytes
def funsRaw (fs : List F2) : List Int := putNum (fs.length : Int) ++ fs.flatMap fnBytes
def funsBytes (fs : List F2) : List Int := if funsOk fs then funsRaw fs else []
theorem flatMap_snoc {α β : Type} (f : α → List β) (xs : List α) {k : Nat} (h : k < xs.length) : (xs.take (k + 1)).flatMap f = (xs.take k).flatMap f ++ f xs[k] := by
  rw [← List.take_append_getElem h, List.flatMap_append, List.flatMap_cons, List.flatMap_nil, List.append_nil]
theorem flatMap_len {α β : Type} {f : α → List β} {b : Nat} : ∀ (xs : List α), (∀ x ∈ xs, (f x).length ≤ b) → (xs.flatMap f).length ≤ b * xs.length := by
  intro xs
  induction xs with
  | nil => intro _; simp
  | cons x xs ih =>
    intro h
    rw [List.flatMap_cons, List.length_append, List.length_cons, Nat.mul_add]
    have := h x (by simp)
    have := ih (fun y hy => h y (by simp [hy]))
    omega
theorem opBytes_len (o : O3) : (opBytes o).length ≤ 15 := by
  unfold opBytes
  have := putNum_len5 o.c
  have := putNum_len5 (o.n + 1073741824)
  have := putNum_len5 o.m
  simp only [List.length_append]
  omega
theorem fnBytes_len (x : F2) (h : x.os.length ≤ 3000) : (fnBytes x).length ≤ 45010 := by
  unfold fnBytes
  have := putNum_len5 x.f
  have := putNum_len5 (x.os.length : Int)
  have := flatMap_len (f := opBytes) (b := 15) x.os (fun o _ => opBytes_len o)
  simp only [List.length_append]
  omega
theorem funsOk_parts {fs : List F2} (h : funsOk fs = true) : (1 ≤ fs.length ∧ fs.length ≤ 60) ∧ (∀ x ∈ fs, (0 ≤ x.f ∧ x.f ≤ 20) ∧ 1 ≤ x.os.length ∧ x.os.length ≤ 3000) ∧ ∀ i (hi : i < fs.length), ∀ o ∈ fs[i].os, opOk fs i o = true := by
  unfold funsOk at h
  rw [Bool.and_eq_true, Bool.and_eq_true, Bool.and_eq_true, List.all_eq_true, List.all_eq_true] at h
  obtain ⟨⟨h1, h2⟩, h3, h4⟩ := h
  have h1 := inB_true.1 h1
  refine ⟨by omega, fun x hx => ?_, fun i hi o ho => ?_⟩
  · have := h3 x hx
    unfold fnHead at this
    rw [Bool.and_eq_true] at this
    have a := inB_true.1 this.1
    have b := inB_true.1 this.2
    omega
  · have := h4 i (List.mem_range.2 hi)
    unfold fnOk at this
    rw [fs_getD hi, Bool.and_eq_true, List.all_eq_true] at this
    exact this.1 o ho
theorem funsRaw_len {fs : List F2} (h : funsOk fs = true) : (funsRaw fs).length ≤ 2700605 := by
  obtain ⟨h1, h2, _⟩ := funsOk_parts h
  unfold funsRaw
  have := putNum_len5 (fs.length : Int)
  have := flatMap_len (f := fnBytes) (b := 45010) fs (fun x hx => fnBytes_len x (h2 x hx).2.2)
  rw [List.length_append]
  omega
theorem opOk_n {fs : List F2} (hh : ∀ x ∈ fs, (0 ≤ x.f ∧ x.f ≤ 20) ∧ 1 ≤ x.os.length ∧ x.os.length ≤ 3000) (hl : fs.length ≤ 60) {i : Nat} (hi : i < fs.length) {o : O3} (h : opOk fs i o = true) :
    (1 ≤ o.c ∧ o.c ≤ 21) ∧ (-1073741824 ≤ o.n ∧ o.n ≤ 1073741823) ∧ (0 ≤ o.m ∧ o.m ≤ 3000) := by
  have hx := hh _ (List.getElem_mem hi)
  have hg : fs.getD i ⟨0, []⟩ = fs[i] := fs_getD hi
  unfold opOk at h
  rw [hg] at h
  generalize fs[i] = x at hx h
  dsimp only at h
  have hz : ∀ k : Int, inB k 1 ((fs.length : Int) - 1) = true → 0 ≤ (fs.getD k.toNat ⟨0, []⟩).f ∧ (fs.getD k.toNat ⟨0, []⟩).f ≤ 20 := by
    intro k hk
    have := inB_true.1 hk
    have hkl : k.toNat < fs.length := by omega
    have h2 := hh _ (List.getElem_mem hkl)
    have hg : fs.getD k.toNat ⟨0, []⟩ = fs[k.toNat] := fs_getD hkl
    rw [hg]
    omega
  have hW : ∀ k : Int, wordB k = inB k (-1073741824) 1073741823 := fun _ => rfl
  repeat' split at h
  all_goals (try simp only [Bool.and_eq_true, hW, beq_iff_eq, decide_eq_true_eq] at h)
  case isFalse.isFalse.isFalse.isFalse.isTrue =>
    obtain ⟨h1, h2⟩ := h
    have := hz _ h1
    have := inB_true.1 h1
    omega
  all_goals ((try simp only [inB_true] at h); omega)
theorem opBytes_in (o : O3) : ∀ x ∈ opBytes o, 0 ≤ x ∧ x ≤ 255 := by
  intro x hx
  unfold opBytes at hx
  simp only [List.mem_append] at hx
  rcases hx with h | h | h <;> exact putNum_in _ x h
theorem fnBytes_in (y : F2) : ∀ x ∈ fnBytes y, 0 ≤ x ∧ x ≤ 255 := by
  intro x hx
  unfold fnBytes at hx
  simp only [List.mem_append, List.mem_flatMap] at hx
  rcases hx with (h | h) | ⟨o, _, h⟩
  · exact putNum_in _ x h
  · exact putNum_in _ x h
  · exact opBytes_in o x h
theorem funsBytes_in (fs : List F2) : ∀ x ∈ funsBytes fs, 0 ≤ x ∧ x ≤ 255 := by
  intro x hx
  unfold funsBytes at hx
  split at hx
  · unfold funsRaw at hx
    simp only [List.mem_append, List.mem_flatMap] at hx
    rcases hx with h | ⟨o, _, h⟩
    · exact putNum_in _ x h
    · exact fnBytes_in o x h
  · simp at hx
theorem mem_bytes {b : List Int} (h : ∀ x ∈ b, 0 ≤ x ∧ x ≤ 255) : ∀ j, 0 ≤ b.getD j 0 ∧ b.getD j 0 ≤ 255 := by
  intro j
  by_cases hj : j < b.length
  · rw [List.getD_eq_getElem?_getD, List.getElem?_eq_getElem hj]
    exact h _ (List.getElem_mem hj)
  · rw [List.getD_eq_getElem?_getD, List.getElem?_eq_none (by omega)]
    simp
end Go.Proofs.YtdmkhipimcjipaaGreat
end
section
namespace Go.Proofs.YtdmkhipimcjipaaGreat
open Go.RowKit
set_option linter.unusedVariables false
structure Acc (w0 W : World) (v : Value) (xs : List Int) (n : Nat) : Prop where
  own : W.ownsRow w0.heap.size 5 1 v xs.length (xs.map (Value.int .u8))
  low : Below w0.heap.size w0 W
  len : xs.length ≤ n
theorem Acc.below {w0 W W' : World} {v : Value} {xs : List Int} {n : Nat} (h : Acc w0 W v xs n) (hb : Below W.heap.size W W') : Acc w0 W' v xs n :=
  ⟨own_below h.own hb (own_lt h.own), h.low.trans (hb.mono h.low.size), h.len⟩
theorem Acc.mono {w0 W : World} {v : Value} {xs : List Int} {n m : Nat} (h : Acc w0 W v xs n) (hm : n ≤ m) : Acc w0 W v xs m := ⟨h.own, h.low, Nat.le_trans h.len hm⟩
theorem Acc.ne {w0 W : World} {v : Value} {xs : List Int} {n : Nat} (h : Acc w0 W v xs n) : v.ownBlock ≠ some W.heap.size := fun hq => by have := own_lt h.own _ hq; omega
def Keeps (v : Value) (W : World) (v' : Value) (W' : World) : Prop := ∀ g cur, Bx W g cur → v.ownBlock ≠ some g → Bx W' g cur ∧ v'.ownBlock ≠ some g
theorem wpList_num {P : Program} {w0 w : World} {ops : Array Oper} {rest : List Oper} {o : Oper} {a : Act} {Q : Exit → Act → World → Prop} (hgd : o.guard = none) (s x : Operand) (t : TypeId)
    (ho : o.op = .call { callee := .builtin .append, args := #[s, x], argTypes := #[t, t] })
    (i : TypeInfo) (z : Value) (bytes : Nat) (ht : P.underlying t = some (.slice 5)) (hi : P.info? 5 = some i) (hz : i.zero = some z)
    (hsize : i.size = 1) (hby : i.bytes = bytes) (hzs : z.cells.size = 1) (hbytes : bytes ≤ 1000)
    (v : Value) (xs : List Int) (n : Nat) (hs : a.eval s = v) (hA : Acc w0 w v xs n) (hn : n ≤ 4000000000)
    (N : Int) (B : Nat) (ua : Option Addr) (c : Nat) (hx : a.eval x = .slice ua (putNum N).length c) (hr : w.ownsRow B 5 1 (.slice ua (putNum N).length c) (putNum N).length ((putNum N).map (Value.int .u8)))
    (h : ∀ v' w', Acc w0 w' v' (xs ++ putNum N) (n + 5) → Keeps v w v' w' → wpList P ops Q rest (a.put o.dst v') w') : wpList P ops Q (o :: rest) a w := by
  have hu := putNum_len5 N
  have hl := hA.len
  refine wpList_app_rd (B := w.heap.size) (k := .u8) _ hgd s x t ho w0.heap.size 5 i z bytes ht hi hz hsize hby hzs v _ _ hs hA.own ua (putNum N).length c (putNum N) hx (Rd.of_own hr) (by omega) hbytes hA.low.size ?_
  intro v' w' o4 g4 alt
  rw [← List.map_append, ← List.length_append] at o4
  refine h v' w' ⟨o4, hA.low.trans (Below.of_grown (B := w0.heap.size) g4 hA.low.size (fun q hq => (hA.own.lt q hq).1)), by rw [List.length_append]; omega⟩ (fun g cur hb hne => ⟨hb.grown g4 (fun h => hne h.symm), fun hq => ?_⟩)
  rcases alt with h | h
  · exact hne (h ▸ hq)
  · rw [h] at hq
    cases hq
    have := hb.1
    omega
end Go.Proofs.YtdmkhipimcjipaaGreat
end
section
namespace Go.Proofs.YtdmkhipimcjipaaGreat
open Go.RowKit
set_option linter.unusedVariables false
set_option linter.unusedSimpArgs false
set_option maxHeartbeats 3200000 in
set_option maxRecDepth 100000 in
theorem sFunsOk_any {B : Nat} (v : Value) (fs : List F2) (w : World) (hr : RdF B w v fs) (hf : ∀ x ∈ fs, fnIn x) (hlen : fs.length ≤ 4294967296) :
    Calls Tryz.prog 26 #[v] w fun e w' => e = .returned (.bool (funsOk fs)) ∧ Below w.heap.size w w' := by
  have HR := Lib.hid (fun (W : World) (hb : Below w.heap.size w W) => hr.below' hb)
  have HF := Lib.hid hf
  by_cases hq : inB (fs.length : Int) 1 60 = true
  · have hl := inB_true.1 hq
    have h0 : 0 < fs.length := by omega
    obtain ⟨b, off, cap, lv, rfl, hB, hbs, hcap, q0, q1, ro⟩ := hr.at_ h0
    obtain ⟨la, lc, rfl⟩ := ro.form
    have hz : fs[0] = fs.getD 0 fn0 := (fs_getD h0).symm
    rw [hz] at q0
    obtain ⟨F, hF⟩ : ∃ F, (fs.getD 0 fn0).f = F := ⟨_, rfl⟩
    rw [hF] at q0
    rw [Nat.zero_mul, Nat.add_zero] at q0
    have h0i : (0 : Int) < (fs.length : Int) := by omega
    by_cases hF0 : F = 0
    · subst hF0
      have HH := Lib.hid (show (inB (fs.length : Int) 1 60 && ((fs.getD 0 fn0).f == 0)) = true by rw [hq, hF]; rfl)
      clear hr hf hF hz ro q1
      go_enter Tryz.func26, Tryz.ntmps26
      go_wp2_with (go_at_call 22; refine (l1In_any _ _ _ _).mono ?_; rw [hq]; rintro e w' ⟨rfl, rfl⟩)
      clear q0
      go_loopw [3] (fun i wr => ∃ k : Nat, k ≤ fs.length ∧ i = .int .i64 k ∧ Below w.heap.size w wr ∧ Hid (∀ j (h : j < fs.length), j < k → fnHead fs[j] = true ∧ fnOk fs j = true)) (fun i _ => fs.length - (intOf i).toNat)
      case atStart => exact ⟨0, Nat.zero_le _, rfl, Below.refl _ _, Lib.hid (fun j _ h => absurd h (by omega))⟩
      case round =>
        obtain ⟨k, hk, rfl, hb, hd⟩ := hrel
        by_cases hlt : k < fs.length
        · obtain ⟨b', off', cap', lv', hs, _, hbs', _, c0, c1, ro⟩ := (HR.out _ hb).at_ hlt
          cases hs
          obtain ⟨la', lc', rfl⟩ := ro.form
          have hkl : (k : Int) < (fs.length : Int) := by omega
          have hoi := (HF.out _ (List.getElem_mem hlt)).2
          have HO := Lib.hid (fun (W : World) (hb : Below w.heap.size w W) (o : O3) (ho : o3In o) (hh1 : 0 ≤ fs[k].f ∧ fs[k].f ≤ 20) (hh2 : fs[k].os.length ≤ 3000) => l13Op_any _ fs k o W (HR.out W hb) hlt ho hh1 (by omega) hh2)
          obtain ⟨x, hx⟩ : ∃ x, fs[k] = x := ⟨_, rfl⟩
          obtain ⟨q3, hq3⟩ : ∃ q, inB x.f 0 20 = q := ⟨_, rfl⟩
          obtain ⟨q4, hq4⟩ : ∃ q, inB (x.os.length : Int) 1 3000 = q := ⟨_, rfl⟩
          rw [hx] at c0 c1 ro hoi
          simp only [hx] at HO
          have HOX := Lib.hid hoi
          have HX := Lib.hid hx
          have RO := Lib.hid (fun (W : World) (h : Below wr.heap.size wr W) => RdE.below' ro h)
          have HC1 := Lib.hid (fun (W : World) (h : Below wr.heap.size wr W) => (h.cell (p := ⟨b, off + k * 2 + 1, none⟩) hbs').trans c1)
          have HB := Lib.hid hb
          have hbz := hb.size
          clear hx ro hb hoi
          cases q3
          · have HBAD := Lib.hid (funsOk_bad hlt (by rw [HX.out]; unfold fnHead; rw [hq3]; rfl))
            go_wp2_with (go_at_call 22; refine (l1In_any _ _ _ _).mono ?_; simp only [hq3]; rintro e w' ⟨rfl, rfl⟩)
            go_ret
            exact ⟨ret_bool HBAD.out.symm, HB.out⟩
          cases q4
          · have HBAD := Lib.hid (funsOk_bad hlt (by rw [HX.out]; unfold fnHead; rw [hq3, hq4]; rfl))
            go_wp2_with (go_at_call 22; refine (l1In_any _ _ _ _).mono ?_; simp only [hq3, hq4]; rintro e w' ⟨rfl, rfl⟩)
            go_ret
            exact ⟨ret_bool HBAD.out.symm, HB.out⟩
          · have hh1 := inB_true.1 hq3
            have hh2 := inB_true.1 hq4
            have HHD := Lib.hid (show fnHead x = true by unfold fnHead; rw [hq3, hq4]; rfl)
            go_wp2_with (go_at_call 22; refine (l1In_any _ _ _ _).mono ?_; simp only [hq3, hq4]; rintro e w' ⟨rfl, rfl⟩)
            clear c0 c1 hq3 hq4
            obtain ⟨z, rfl⟩ : ∃ z, z = wr := ⟨wr, rfl⟩
            go_loopw [5] (fun i wy => ∃ t : Nat, t ≤ x.os.length ∧ i = .int .i64 t ∧ Below z.heap.size z wy ∧ Hid (∀ j (h : j < x.os.length), j < t → opOk fs k x.os[j] = true)) (fun i _ => x.os.length - (intOf i).toNat)
            case atStart => exact ⟨0, Nat.zero_le _, rfl, Below.refl _ _, Lib.hid (fun j _ h => absurd h (by omega))⟩
            case round =>
              obtain ⟨t, ht, rfl, hb, hd3⟩ := hrel
              have hbw := HB.out.trans (hb.mono hbz)
              have c1 := HC1.out _ hb
              by_cases htl : t < x.os.length
              · obtain ⟨bo, offo, capo, hso, _, hbso, _, d0, d1, d2⟩ := RdO.at_ (RO.out _ hb) htl
                cases hso
                have htt : (t : Int) < (x.os.length : Int) := by omega
                have hoo := HOX.out _ (List.getElem_mem htl)
                obtain ⟨q5, hq5⟩ : ∃ q, opOk fs k x.os[t] = q := ⟨_, rfl⟩
                have ho := fun (W : World) (hb : Below w.heap.size w W) => HO.out W hb x.os[t] hoo hh1 (by omega)
                rw [hq5] at ho
                have HO5 := Lib.hid ho
                have HQ5 := Lib.hid hq5
                have HB3 := Lib.hid hb
                have HBW := Lib.hid hbw
                clear ho hq5 hoo hb hbw
                go_wp2_with fail
                refine (HO5.out _ HBW.out).mono ?_
                rintro e w9 ⟨rfl, b9⟩
                have B9 := Lib.hid (HB3.out.trans (b9.mono HB3.out.size))
                have BW9 := Lib.hid (HBW.out.trans (b9.mono HBW.out.size))
                clear b9 d0 d1 d2 c1 HB3 HBW HO5
                cases q5
                · have HBAD := Lib.hid (funsOk_fn hlt (fnOk_op hlt (by rw [HX.out]; exact htl) (by have := HQ5.out; simp only [HX.out]; exact this)))
                  go_wp2
                  go_ret
                  exact ⟨ret_bool HBAD.out.symm, BW9.out⟩
                · go_wp2
                  go_roundw
                  case rel => exact ⟨t + 1, htl, by go_num, B9.out, Lib.hid (fun j h hj => by
                    by_cases e : j = t
                    · subst e; exact HQ5.out
                    · exact hd3.out j h (by omega))⟩
                  case measure => simp [intOf]; omega
              · obtain rfl : t = x.os.length := by omega
                obtain ⟨E, hE⟩ : ∃ E : Nat, x.os.length - 1 = E := ⟨_, rfl⟩
                have hEl : E < x.os.length := by omega
                obtain ⟨bo, offo, capo, hso, _, hbso, _, d0, _, _⟩ := RdO.at_ (RO.out _ hb) hEl
                cases hso
                have e1 : IntKind.i64.wrap ((x.os.length : Int) - 1) = (E : Int) := by rw [IntWalk.i64_in _ (by omega)]; omega
                have e2 : (E : Int) < (x.os.length : Int) := by omega
                obtain ⟨C, hC⟩ : ∃ C, x.os[E].c = C := ⟨_, rfl⟩
                rw [hC] at d0
                have hlc : lastC x = C := by
                  obtain ⟨_, h2⟩ := lastC_at (x := x) rfl (by omega)
                  rw [← h2, ← hC]
                  simp only [hE]
                have HLC := Lib.hid hlc
                have HBW := Lib.hid hbw
                have HD3 := hd3
                clear hC hlc hE hb hbw
                by_cases hC : C = 7 ∨ C = 19 ∨ C = 21
                · have HYES := Lib.hid (fnOk_yes hlt (fun j hj => by
                    have h1 : j < x.os.length := by rw [← HX.out]; exact hj
                    have h2 := HD3.out j h1 h1
                    simp only [HX.out]
                    exact h2) (by rw [HX.out]; unfold fnLast; rw [HLC.out]; rcases hC with rfl | rfl | rfl <;> rfl))
                  rcases hC with rfl | rfl | rfl
                  all_goals go_wp2
                  all_goals go_roundw
                  all_goals first
                    | exact ⟨k + 1, hlt, by go_num, HBW.out, Lib.hid (fun j h hj => by
                        by_cases e : j = k
                        · subst e; exact ⟨by rw [HX.out]; exact HHD.out, HYES.out⟩
                        · exact hd.out j h (by omega))⟩
                    | (simp [intOf]; omega)
                · have HBAD := Lib.hid (funsOk_fn hlt (fnOk_last hlt (by rw [HX.out]; unfold fnLast; rw [HLC.out]; simp; omega)))
                  have n1 : (C != 7) = true := by simp; omega
                  have n2 : (C != 19) = true := by simp; omega
                  have n3 : (C != 21) = true := by simp; omega
                  have n4 : C ≠ 7 := by omega
                  have n5 : C ≠ 19 := by omega
                  have n6 : C ≠ 21 := by omega
                  clear hC
                  go_wp2
                  go_ret
                  exact ⟨ret_bool HBAD.out.symm, HBW.out⟩
        · obtain rfl : k = fs.length := by omega
          have HYES := Lib.hid (funsOk_yes HH.out (fun j h => (hd.out j h h).1) (fun j hj => (hd.out j hj hj).2))
          go_wp2
          go_ret
          exact ⟨ret_bool HYES.out.symm, hb⟩
    · have HH := Lib.hid (funsOk_head (fs := fs) (by rw [hF]; simp [hF0]))
      have hFn : (F != 0) = true := by simp [hF0]
      clear hr hf hF hz ro q1
      go_enter Tryz.func26, Tryz.ntmps26
      go_wp2_with (go_at_call 22; refine (l1In_any _ _ _ _).mono ?_; rw [hq]; rintro e w' ⟨rfl, rfl⟩)
      go_ret
      exact ⟨ret_bool HH.out.symm, Below.refl _ _⟩
  · have hq : inB (fs.length : Int) 1 60 = false := by simpa using hq
    have HH := Lib.hid (funsOk_head (fs := fs) (by rw [hq]; rfl))
    obtain ⟨a, cap, rfl⟩ := hr.form
    clear hr hf
    go_enter Tryz.func26, Tryz.ntmps26
    go_wp2_with (go_at_call 22; refine (l1In_any _ _ _ _).mono ?_; rw [hq]; rintro e w' ⟨rfl, rfl⟩)
    go_ret
    exact ⟨ret_bool HH.out.symm, Below.refl _ _⟩
end Go.Proofs.YtdmkhipimcjipaaGreat
end
section
namespace Go.Proofs.YtdmkhipimcjipaaGreat
open Go.RowKit
set_option linter.unusedVariables false
set_option linter.unusedSimpArgs false
set_option maxHeartbeats 6400000 in
set_option maxRecDepth 100000 in
theorem sFunsBytes_any {B : Nat} (v : Value) (fs : List F2) (w : World) (hr : RdF B w v fs) (hf : ∀ x ∈ fs, fnIn x) (hlen : fs.length ≤ 4294967296) :
    Calls Tryz.prog 13 #[v] w fun e w' => ∃ v, e = .returned v ∧ w'.ownsRow w.heap.size 5 1 v (funsBytes fs).length ((funsBytes fs).map (Value.int .u8)) ∧ Below w.heap.size w w' := by
  obtain ⟨i0, hi, hz0, hz1, hz2⟩ := info_parts Tryz.infoU8
  have hfn := sFunsOk_any v fs w hr hf hlen
  have HR := Lib.hid hr
  obtain ⟨a, cap, rfl⟩ := hr.form
  cases hok : funsOk fs
  · have he : funsBytes fs = [] := by unfold funsBytes; rw [hok]; rfl
    rw [he]
    rw [hok] at hfn
    have HFN := Lib.hid hfn
    clear hr hf hfn hok he
    go_enter Tryz.func13, Tryz.ntmps13
    go_wp2_with fail
    refine (HFN.out).mono ?_
    rintro e w1 ⟨rfl, b1⟩
    have hbz := b1.size
    go_wp2
    go_ret
    exact ⟨_, rfl, own_empty rfl hbz, b1.alloc hbz _⟩
  · have he : funsBytes fs = funsRaw fs := by unfold funsBytes; rw [hok]; rfl
    rw [he]
    rw [hok] at hfn
    have HFN := Lib.hid hfn
    obtain ⟨hl, hh, hops⟩ := funsOk_parts hok
    have HH := Lib.hid hh
    have HN := Lib.hid (fun (i : Nat) (hi : i < fs.length) (o : O3) (ho : o ∈ fs[i].os) => opOk_n hh hl.2 hi (hops i hi o ho))
    obtain ⟨hl0, hl1⟩ := hl
    clear hr hf hfn hok he hh hops
    go_enter Tryz.func13, Tryz.ntmps13
    go_wp2_with fail
    refine (HFN.out).mono ?_
    rintro e w1 ⟨rfl, bb⟩
    go_wp2_with fail
    refine (sPutNum_any _ _).mono ?_
    rintro e w2 ⟨v, rfl, o2, b2⟩
    have hA : Acc w w2 v (putNum (fs.length : Int)) 5 := ⟨own_base o2 bb.size, bb.trans (b2.mono bb.size), putNum_len5 _⟩
    clear o2 b2 bb
    go_wp2
    go_loopw [3, 4] (fun s i wr => ∃ (k : Nat) (v : Value) (xs : List Int), k ≤ fs.length ∧ i = .int .i64 k ∧ s = v ∧ Hid (xs = putNum (fs.length : Int) ++ (fs.take k).flatMap fnBytes) ∧ Acc w wr v xs (5 + 45010 * k)) (fun s i _ => fs.length - (intOf i).toNat)
    case atStart => exact ⟨0, v, _, Nat.zero_le _, rfl, rfl, Lib.hid (by simp), hA⟩
    case round =>
      clear hA
      obtain ⟨k, v, xs, hk, rfl, rfl, HXS, hA⟩ := hrel
      by_cases hlt : k < fs.length
      · obtain ⟨b', off', cap', lv', hs, _, hbs', _, c0, c1, ro⟩ := HR.out.at_ hlt
        cases hs
        obtain ⟨la', lc', rfl⟩ := ro.form
        have hkl : (k : Int) < (fs.length : Int) := by omega
        have hxx := HH.out _ (List.getElem_mem hlt)
        have hnn := HN.out k hlt
        obtain ⟨x, hx⟩ : ∃ x, fs[k] = x := ⟨_, rfl⟩
        rw [hx] at c0 c1 hxx ro
        simp only [hx] at hnn
        have HNN := Lib.hid hnn
        have HX := Lib.hid hx
        have RO := Lib.hid (fun (W : World) (h : Below w.heap.size w W) => RdE.below' ro h)
        have HC0 := Lib.hid (fun (W : World) (h : Below w.heap.size w W) => (h.cell (p := ⟨b', off' + k * 2, none⟩) hbs').trans c0)
        have HC1 := Lib.hid (fun (W : World) (h : Below w.heap.size w W) => (h.cell (p := ⟨b', off' + k * 2 + 1, none⟩) hbs').trans c1)
        obtain ⟨⟨hf0, hf1⟩, hn0, hn1⟩ := hxx
        clear hx hnn ro c0 c1
        have c0 := HC0.out _ hA.low
        have c1 := HC1.out _ hA.low
        go_wp2_with fail
        refine (sPutNum_any _ _).mono ?_
        rintro e w3 ⟨u, rfl, o3, b3⟩
        clear c0 c1
        replace hA := hA.below b3
        obtain ⟨ua, ucap, rfl⟩ := own_form o3
        go_wp2_with (at_builtin; refine wpList_num rfl (.tmp 20) (.tmp 26) 22 rfl i0 (.int .u8 0) 1 Tryz.underlying22 hi hz0 hz1 hz2 rfl (by decide) _ _ _ (by rfl) hA (by omega) _ _ _ _ (by rfl) o3 ?_)
        intro v9 w4 hA2 kk
        replace hA := hA2
        clear hA2 kk o3 b3
        have c0 := HC0.out _ hA.low
        have c1 := HC1.out _ hA.low
        go_wp2_with fail
        refine (sPutNum_any _ _).mono ?_
        rintro e w3 ⟨u, rfl, o3, b3⟩
        clear c0 c1
        replace hA := hA.below b3
        obtain ⟨ua, ucap, rfl⟩ := own_form o3
        go_wp2_with (at_builtin; refine wpList_num rfl (.tmp 28) (.tmp 35) 22 rfl i0 (.int .u8 0) 1 Tryz.underlying22 hi hz0 hz1 hz2 rfl (by decide) _ _ _ (by rfl) hA (by omega) _ _ _ _ (by rfl) o3 ?_)
        intro v9 w4 hA2 kk
        replace hA := hA2
        clear hA2 kk o3 b3
        have c0 := HC0.out _ hA.low
        have c1 := HC1.out _ hA.low
        go_wp2
        clear c0 c1
        obtain ⟨P0, hP0⟩ : ∃ l, xs ++ (putNum x.f ++ putNum (x.os.length : Int)) = l := ⟨_, rfl⟩
        rw [hP0] at hA
        have HP0 := Lib.hid hP0
        clear hP0
        go_loopw [3, 5] (fun s i wy => ∃ (t : Nat) (v : Value) (ys : List Int), t ≤ x.os.length ∧ i = .int .i64 t ∧ s = v ∧ Hid (ys = P0 ++ (x.os.take t).flatMap opBytes) ∧ Acc w wy v ys (15 + 45010 * k + 15 * t)) (fun s i _ => x.os.length - (intOf i).toNat)
        case atStart => exact ⟨0, _, _, Nat.zero_le _, rfl, rfl, Lib.hid (by simp), hA.mono (by omega)⟩
        case round =>
          clear hA
          obtain ⟨t, v9, ys, ht, rfl, rfl, HYS, hA⟩ := hrel
          by_cases htl : t < x.os.length
          · obtain ⟨bo, offo, capo, hso, _, hbso, _, d0, d1, d2⟩ := RdO.at_ (RO.out _ hA.low) htl
            cases hso
            have htt : (t : Int) < (x.os.length : Int) := by omega
            have hoo := HNN.out _ (List.getElem_mem htl)
            obtain ⟨o, ho⟩ : ∃ o, x.os[t] = o := ⟨_, rfl⟩
            rw [ho] at d0 d1 d2 hoo
            have HO := Lib.hid ho
            obtain ⟨⟨o1, o2⟩, ⟨o3, o4⟩, o5, o6⟩ := hoo
            clear ho
            have c1 := HC1.out _ hA.low
            go_wp2_with fail
            have hne := hA.ne
            generalize hz : wr.alloc _ = z
            obtain ⟨bz, kx⟩ := Bx.alloc hz
            clear hz d0 d1 d2 c1
            replace hA := hA.below bz
            clear bz
            have ck := kx.2.1
            have yk := kx.1
            go_wp2_with fail
            refine (sPutNum_any _ _).mono ?_
            rintro e w3 ⟨u, rfl, o3, b3⟩
            clear ck yk
            replace hA := hA.below b3
            replace kx := kx.below b3 kx.1
            obtain ⟨ua, ucap, rfl⟩ := own_form o3
            go_wp2_with (at_builtin; refine wpList_num rfl (.tmp 55) (.tmp 58) 22 rfl i0 (.int .u8 0) 1 Tryz.underlying22 hi hz0 hz1 hz2 rfl (by decide) _ _ _ (by rfl) hA (by omega) _ _ _ _ (by rfl) o3 ?_)
            intro v9 w4 hA2 kk
            replace hne := (kk _ _ kx hne)
            replace kx := hne.1
            replace hne := hne.2
            replace hA := hA2
            clear hA2 kk o3 b3
            have ck := kx.2.1
            have yk := kx.1
            go_wp2_with fail
            refine (sPutNum_any _ _).mono ?_
            rintro e w3 ⟨u, rfl, o3, b3⟩
            clear ck yk
            replace hA := hA.below b3
            replace kx := kx.below b3 kx.1
            obtain ⟨ua, ucap, rfl⟩ := own_form o3
            go_wp2_with (at_builtin; refine wpList_num rfl (.tmp 60) (.tmp 64) 22 rfl i0 (.int .u8 0) 1 Tryz.underlying22 hi hz0 hz1 hz2 rfl (by decide) _ _ _ (by rfl) hA (by omega) _ _ _ _ (by rfl) o3 ?_)
            intro v9 w4 hA2 kk
            replace hne := (kk _ _ kx hne)
            replace kx := hne.1
            replace hne := hne.2
            replace hA := hA2
            clear hA2 kk o3 b3
            have ck := kx.2.1
            have yk := kx.1
            go_wp2_with fail
            refine (sPutNum_any _ _).mono ?_
            rintro e w3 ⟨u, rfl, o3, b3⟩
            clear ck yk
            replace hA := hA.below b3
            replace kx := kx.below b3 kx.1
            obtain ⟨ua, ucap, rfl⟩ := own_form o3
            go_wp2_with (at_builtin; refine wpList_num rfl (.tmp 66) (.tmp 69) 22 rfl i0 (.int .u8 0) 1 Tryz.underlying22 hi hz0 hz1 hz2 rfl (by decide) _ _ _ (by rfl) hA (by omega) _ _ _ _ (by rfl) o3 ?_)
            intro v9 w4 hA2 kk
            replace hne := (kk _ _ kx hne)
            replace kx := hne.1
            replace hne := hne.2
            replace hA := hA2
            clear hA2 kk o3 b3
            obtain ⟨zs, hzs⟩ : ∃ l, ys ++ (putNum o.c ++ (putNum (o.n + 1073741824) ++ putNum o.m)) = l := ⟨_, rfl⟩
            rw [hzs] at hA
            have HZ := Lib.hid (show zs = P0 ++ (x.os.take (t + 1)).flatMap opBytes by rw [flatMap_snoc _ _ htl, ← hzs, HYS.out, HO.out]; unfold opBytes; simp only [List.append_assoc])
            clear hzs HYS kx hne
            go_wp2
            go_roundw
            case rel => exact ⟨t + 1, _, zs, htl, by go_num, rfl, HZ, hA.mono (by omega)⟩
            case measure => simp [intOf]; omega
          · obtain rfl : t = x.os.length := by omega
            have HZ := Lib.hid (show ys = putNum (fs.length : Int) ++ (fs.take (k + 1)).flatMap fnBytes by rw [flatMap_snoc _ _ hlt, HYS.out, ← HP0.out, HXS.out, HX.out, List.take_of_length_le (Nat.le_refl _)]; unfold fnBytes; simp only [List.append_assoc])
            clear HYS
            have c1 := HC1.out _ hA.low
            go_wp2
            go_roundw
            case rel => exact ⟨k + 1, _, ys, hlt, by go_num, rfl, HZ, hA.mono (by omega)⟩
            case measure => simp [intOf]; omega
      · obtain rfl : k = fs.length := by omega
        have HE := Lib.hid (show xs = funsRaw fs by rw [HXS.out, List.take_of_length_le (Nat.le_refl _)]; rfl)
        clear HXS
        go_wp2
        go_ret
        refine ⟨_, rfl, ?_, hA.low⟩
        rw [← HE.out]
        exact hA.own
end Go.Proofs.YtdmkhipimcjipaaGreat
end
section
namespace Go.Proofs.YtdmkhipimcjipaaGreat
open Go.RowKit
set_option linter.unusedVariables false
theorem Bx.apart {g N : Nat} {v : Value} (h1 : ∀ k, v.ownBlock = some k → k < N) (h2 : N ≤ g) : some g ≠ v.ownBlock := by
  intro h
  have := h1 g h.symm
  omega
end Go.Proofs.YtdmkhipimcjipaaGreat
end
section
namespace Go.Proofs.YtdmkhipimcjipaaGreat
open Go.RowKit
set_option linter.unusedVariables false
set_option linter.unusedSimpArgs false
set_option maxHeartbeats 1600000 in
set_option maxRecDepth 100000 in
theorem sameFuns_same {B1 B2 : Nat} (va vb : Value) (fs : List F2) (w : World) (ha : RdF B1 w va fs) (hb : RdF B2 w vb fs) :
    Calls Tryz.prog 16 #[va, vb] w fun e w' => e = .returned (.bool true) ∧ Below w.heap.size w w' := by
  have hx := ha.len
  unfold maxLen at hx
  have HA := Lib.hid ha
  have HB := Lib.hid hb
  obtain ⟨a1, cap1, rfl⟩ := ha.form
  obtain ⟨a2, cap2, rfl⟩ := hb.form
  clear ha hb
  go_enter Tryz.func16, Tryz.ntmps16
  go_wp2
  go_loopw [5] (fun i wr => ∃ k n : Nat, k ≤ fs.length ∧ i = .int .i64 k ∧ wr = w.drewN n) (fun i _ => fs.length - (intOf i).toNat)
  case atStart => exact ⟨0, 0, Nat.zero_le _, rfl, rfl⟩
  case round =>
    obtain ⟨k, n, hk, rfl, rfl⟩ := hrel
    by_cases hlt : k < fs.length
    · obtain ⟨b, off, cap', lv, hs, hB, hbs, hcap, c0, c1, ro⟩ := HA.out.at_ hlt
      cases hs
      obtain ⟨b', off', cap'', lv', hs', hB', hbs', hcap', d0, d1, ro'⟩ := HB.out.at_ hlt
      cases hs'
      have hol := ro.len
      unfold maxLen at hol
      obtain ⟨la, lc, rfl⟩ := ro.form
      obtain ⟨la', lc', rfl⟩ := ro'.form
      have hkl : (k : Int) < (fs.length : Int) := by omega
      have RO := Lib.hid ro
      have RO' := Lib.hid ro'
      clear ro ro'
      go_wp2
      go_quiet (fail)
      go_wp2
      go_loopw [6] (fun i wr => ∃ t m : Nat, t ≤ fs[k].os.length ∧ i = .int .i64 t ∧ wr = w.drewN m) (fun i _ => fs[k].os.length - (intOf i).toNat)
      case atStart => exact ⟨0, n + nq, Nat.zero_le _, rfl, by simp⟩
      case round =>
        clear nq
        obtain ⟨t, m, ht, rfl, rfl⟩ := hrel
        by_cases htl : t < fs[k].os.length
        · obtain ⟨bo, offo, capo, hso, _, hbso, _, e0, e1, e2⟩ := RdO.at_ RO.out htl
          cases hso
          obtain ⟨bp, offp, capp, hsp, _, hbsp, _, f0, f1, f2⟩ := RdO.at_ RO'.out htl
          cases hsp
          have htt : (t : Int) < (fs[k].os.length : Int) := by omega
          go_wp2
          go_quiet (fail)
          go_wp2
          go_roundw
          case rel => exact ⟨t + 1, m + nq, htl, by go_num, by simp⟩
          case measure => simp [intOf]; omega
        · obtain rfl : t = fs[k].os.length := by omega
          go_wp2
          go_roundw
          case rel => exact ⟨k + 1, m, hlt, by go_num, rfl⟩
          case measure => simp [intOf]; omega
    · go_wp2
      go_ret
      exact ⟨rfl, below_drewN (Below.refl _ _) _⟩
end Go.Proofs.YtdmkhipimcjipaaGreat
end
section
namespace Go.Proofs.YtdmkhipimcjipaaGreat
open Go.RowKit
set_option linter.unusedVariables false
set_option linter.unusedSimpArgs false
theorem conv_rd {B : Nat} {v : Value} {zs : List Int} {w : World} (hr : Rd B .u8 w v zs) : (convert 22 9 v).run Tryz.prog w = .ok (.string (strOfNums zs)) w := by
  rcases hr with ⟨rfl, a, cap, rfl⟩ | ⟨b, off, cap, rfl, _, _, _, hc⟩
  · cases a with
    | none => exact run_convert_bytes_nil w 22 5 Tryz.underlying22 Tryz.underlying5 0 cap 9 Tryz.underlying9
    | some ad =>
      rw [run_convert_bytes_string w 22 9 5 _ 0 cap Tryz.underlying22 Tryz.underlying5 Tryz.underlying9]
      have hl : (loadCells ad 0).run Tryz.prog w = .ok (([] : List Int).map (Value.int .u8)).toArray w := run_loadCells_list (P := Tryz.prog) w ad [] (fun j v hj => by simp at hj)
      rw [run_bytesToString w _ 0 cap [] hl]
      rfl
  · exact run_convert_bytes_arg w 22 5 Tryz.underlying22 Tryz.underlying5 b off zs.length cap zs rfl (fun i hi => hc i hi) 9 Tryz.underlying9
end Go.Proofs.YtdmkhipimcjipaaGreat
end
section
namespace Go.Proofs.YtdmkhipimcjipaaGreat
open Go.RowKit
set_option linter.unusedVariables false
def getGo (b : List Int) (i : Int) : Nat → Nat → Int → Int × Int × Bool
  | 0, _, _ => (0, 0, false)
  | f + 1, k, n =>
    if i + k < b.length then
      if b.getD (i.toNat + k) 0 < 128 then
        (if 2147483647 < n + b.getD (i.toNat + k) 0 % 128 * 128 ^ k ∨ (b.getD (i.toNat + k) 0 = 0 ∧ 0 < k) then (0, 0, false) else (n + b.getD (i.toNat + k) 0 % 128 * 128 ^ k, i + k + 1, true))
      else getGo b i f (k + 1) (n + b.getD (i.toNat + k) 0 % 128 * 128 ^ k)
    else (0, 0, false)
def getNum (b : List Int) (i : Int) : Int × Int × Bool := if inB i 0 (b.length - 1) then getGo b i 5 0 0 else (0, 0, false)
def trip (r : Int × Int × Bool) : Value := .tuple #[.int .i64 r.1, .int .i64 r.2.1, .bool r.2.2]
theorem getGo_in {b : List Int} {i : Int} {f k : Nat} {n c N : Int} (h : i + k < b.length) (hc : b.getD (i.toNat + k) 0 = c) (hN : n + c % 128 * 128 ^ k = N) :
    getGo b i (f + 1) k n = if c < 128 then (if 2147483647 < N ∨ (c = 0 ∧ 0 < k) then (0, 0, false) else (N, i + k + 1, true)) else getGo b i f (k + 1) N := by
  subst hc; subst hN; rw [getGo, if_pos h]
theorem getGo_out {b : List Int} {i : Int} {f k : Nat} {n : Int} (h : ¬ (i + k < b.length)) : getGo b i (f + 1) k n = (0, 0, false) := by rw [getGo, if_neg h]
theorem getGo_bound {k : Nat} {n x : Int} (h0 : 0 ≤ n) (h1 : n < 128 ^ k) (x0 : 0 ≤ x) (x1 : x < 128) : 0 ≤ n + x * 128 ^ k ∧ n + x * 128 ^ k < 128 ^ (k + 1) := by
  have hp : (0 : Int) < 128 ^ k := Int.pow_pos (by decide)
  rw [Int.pow_succ]
  generalize (128 : Int) ^ k = p at h1 hp ⊢
  have h2 : x * p ≤ 127 * p := Int.mul_le_mul_of_nonneg_right (by omega) (by omega)
  have h3 : 0 ≤ x * p := Int.mul_nonneg x0 (by omega)
  omega
def bytesOk (b : List Int) : Prop := ∀ j, 0 ≤ b.getD j 0 ∧ b.getD j 0 ≤ 255
set_option maxHeartbeats 400000 in
theorem iGetNum_any {B : Nat} (v : Value) (b : List Int) (i : Int) (w : World) (hr : Rd B .u8 w v b) (hb : bytesOk b) (hi0 : -9223372036854775808 ≤ i) (hi1 : i ≤ 9223372036854775807) (hn : b.length ≤ 4294967296) :
    Calls Tryz.prog 7 #[v, .int .i64 i] w fun e w' => e = .returned (trip (getNum b i)) ∧ Still w w' := by
  cases hw : inB i 0 (b.length - 1)
  · have he : getNum b i = (0, 0, false) := by simp [getNum, hw]
    have HE := Lib.hid he
    clear he
    have hv : ∃ a n cap, v = .slice a n cap ∧ n = b.length := by
      rcases hr with ⟨rfl, a, cap, rfl⟩ | ⟨b', off, cap, rfl, _⟩
      · exact ⟨_, _, _, rfl, rfl⟩
      · exact ⟨_, _, _, rfl, rfl⟩
    obtain ⟨a, n, cap, rfl, rfl⟩ := hv
    clear hr
    go_enter Tryz.func7, Tryz.ntmps7
    go_wp2_with (go_at_call 21; refine (within_any _ _ _ _).mono ?_; rintro e w' ⟨rfl, rfl⟩)
    go_ret3
    rw [HE.out]
    exact ⟨rfl, Still.refl _⟩
  · obtain ⟨h0, h1⟩ := inB_true.1 hw
    have he : getNum b i = getGo b i 5 0 0 := by simp [getNum, hw]
    have HE := Lib.hid he
    clear he
    obtain ⟨m, rfl⟩ := Int.eq_ofNat_of_zero_le h0
    rcases hr with ⟨rfl, a, cap, rfl⟩ | ⟨bl, off, cap, rfl, hB, hbs, _, hc⟩
    · simp at h1; omega
    go_enter Tryz.func7, Tryz.ntmps7
    go_wp2_with (go_at_call 21; refine (within_any _ _ _ _).mono ?_; rintro e w' ⟨rfl, rfl⟩)
    go_loopw [7, 8, 9] (fun q i _ wr => ∃ (k : Nat) (n : Int), k ≤ 5 ∧ i = .int .i64 k ∧ q = .int .i64 n ∧ 0 ≤ n ∧ n < 128 ^ k ∧ Hid (getGo b m (5 - k) k n = getGo b m 5 0 0) ∧ wr = w) (fun _ i _ _ => 5 - (intOf i).toNat)
    case atStart => exact ⟨0, 0, by omega, rfl, rfl, by omega, by simp, rfl, rfl⟩
    case round =>
      obtain ⟨k, n, hk, rfl, rfl, hn0, hn1, hg, rfl⟩ := hrel
      by_cases h5 : k < 5
      · by_cases hin : m + k < b.length
        · have c1 := hc (m + k) hin
          have hb1 := (hb (m + k)).1
          have hb2 := (hb (m + k)).2
          obtain ⟨c, hcc⟩ : ∃ c, b.getD (m + k) 0 = c := ⟨_, rfl⟩
          rw [hcc] at c1 hb1 hb2
          have HC := Lib.hid hcc
          clear hc hb hcc
          obtain ⟨N, hN⟩ : ∃ N, n + c % 128 * 128 ^ k = N := ⟨_, rfl⟩
          have e1 := or_shift k h5 n (c % 128) hn0 hn1 (by omega) (by omega)
          have hNb := getGo_bound hn0 hn1 (show 0 ≤ c % 128 by omega) (by omega)
          rw [hN] at e1 hNb
          have hs := hg.out
          rw [show 5 - k = (4 - k) + 1 from by omega, getGo_in (by omega) HC.out hN] at hs
          have HS := Lib.hid hs
          obtain ⟨hN0, hN1⟩ := hNb
          clear hg hN hs
          by_cases hcl : c < 128
          · by_cases hc0 : c = 0
            · subst hc0
              rw [show (0 : Int) % 128 * 2 ^ (7 * k) = 0 from by simp] at e1
              have e2 : bits .or .i64 n 0 = N := by rw [show wrap64 0 = 0 from by unfold wrap64; omega] at e1; exact e1
              by_cases hbig : 2147483647 < N
              · go_wp2
                all_goals
                  go_ret3
                  rw [HE.out, ← HS.out, if_pos hcl, if_pos (by first | omega | exact Or.inr ⟨trivial, hk0⟩)]
                  exact ⟨rfl, Still.refl _⟩
              · by_cases hk0 : 0 < k
                · go_wp2
                  all_goals
                    go_ret3
                    rw [HE.out, ← HS.out, if_pos hcl, if_pos (by first | omega | exact Or.inr ⟨trivial, hk0⟩)]
                    exact ⟨rfl, Still.refl _⟩
                · go_wp2
                  all_goals
                    go_ret3
                    rw [HE.out, ← HS.out, if_pos hcl, if_neg (by omega)]
                    exact ⟨rfl, Still.refl _⟩
            · by_cases hbig : 2147483647 < N
              · go_wp2
                all_goals
                  go_ret3
                  rw [HE.out, ← HS.out, if_pos hcl, if_pos (by first | omega | exact Or.inr ⟨trivial, hk0⟩)]
                  exact ⟨rfl, Still.refl _⟩
              · go_wp2
                all_goals
                  go_ret3
                  rw [HE.out, ← HS.out, if_pos hcl, if_neg (by omega)]
                  exact ⟨rfl, Still.refl _⟩
          · have hs := HS.out
            rw [if_neg hcl] at hs
            have HT := Lib.hid hs
            clear hs HS
            go_wp2
            go_roundw
            case rel => exact ⟨k + 1, N, by omega, by go_num, rfl, hN0, hN1, by show _ = _; rw [← HT.out]; rw [show 5 - (k + 1) = 4 - k from by omega], by trivial⟩
            case measure => simp [intOf]; omega
        · have hs := hg.out
          rw [show 5 - k = (4 - k) + 1 from by omega, getGo_out (by omega)] at hs
          have HS := Lib.hid hs
          clear hs hg
          go_wp2
          all_goals
            go_ret3
            rw [HE.out, ← HS.out]
            exact ⟨rfl, Still.refl _⟩
      · have hs := hg.out
        rw [show 5 - k = 0 from by omega, getGo] at hs
        have HS := Lib.hid hs
        clear hs hg
        go_wp2
        all_goals
          go_ret3
          rw [HE.out, ← HS.out]
          exact ⟨rfl, Still.refl _⟩
set_option maxHeartbeats 400000 in
theorem sGetNum_any {B : Nat} (v : Value) (b : List Int) (i : Int) (w : World) (hr : Rd B .u8 w v b) (hb : bytesOk b) (hi0 : -9223372036854775808 ≤ i) (hi1 : i ≤ 9223372036854775807) (hn : b.length ≤ 4294967296) :
    Calls Tryz.prog 10 #[v, .int .i64 i] w fun e w' => e = .returned (trip (getNum b i)) ∧ Still w w' := by
  cases hw : inB i 0 (b.length - 1)
  · have he : getNum b i = (0, 0, false) := by simp [getNum, hw]
    have HE := Lib.hid he
    clear he
    have hv : ∃ a n cap, v = .slice a n cap ∧ n = b.length := by
      rcases hr with ⟨rfl, a, cap, rfl⟩ | ⟨b', off, cap, rfl, _⟩
      · exact ⟨_, _, _, rfl, rfl⟩
      · exact ⟨_, _, _, rfl, rfl⟩
    obtain ⟨a, n, cap, rfl, rfl⟩ := hv
    clear hr
    have hout := inB_false.1 hw
    by_cases hneg : i < 0
    · go_enter Tryz.func10, Tryz.ntmps10
      go_wp2
      refine wp_loop_rounds 1 ?_
      rw [rounds_succ]
      go_wp2
      go_ret3
      rw [HE.out]
      exact ⟨rfl, Still.refl _⟩
    have hge : (b.length : Int) ≤ i := by omega
    clear hout
    go_enter Tryz.func10, Tryz.ntmps10
    go_wp2
    refine wp_loop_rounds 1 ?_
    rw [rounds_succ]
    go_wp2
    go_ret3
    rw [HE.out]
    exact ⟨rfl, Still.refl _⟩
  · obtain ⟨h0, h1⟩ := inB_true.1 hw
    have he : getNum b i = getGo b i 5 0 0 := by simp [getNum, hw]
    have HE := Lib.hid he
    clear he
    obtain ⟨m, rfl⟩ := Int.eq_ofNat_of_zero_le h0
    rcases hr with ⟨rfl, a, cap, rfl⟩ | ⟨bl, off, cap, rfl, hB, hbs, _, hc⟩
    · simp at h1; omega
    go_enter Tryz.func10, Tryz.ntmps10
    go_wp2
    go_loopw [7, 8, 9] (fun q i _ wr => ∃ (k : Nat) (n : Int), k ≤ 5 ∧ i = .int .i64 k ∧ q = .int .i64 n ∧ 0 ≤ n ∧ n < 128 ^ k ∧ Hid (getGo b m (5 - k) k n = getGo b m 5 0 0) ∧ wr = w) (fun _ i _ _ => 5 - (intOf i).toNat)
    case atStart => exact ⟨0, 0, by omega, rfl, rfl, by omega, by simp, rfl, rfl⟩
    case round =>
      obtain ⟨k, n, hk, rfl, rfl, hn0, hn1, hg, rfl⟩ := hrel
      by_cases h5 : k < 5
      · by_cases hin : m + k < b.length
        · have c1 := hc (m + k) hin
          have hb1 := (hb (m + k)).1
          have hb2 := (hb (m + k)).2
          obtain ⟨c, hcc⟩ : ∃ c, b.getD (m + k) 0 = c := ⟨_, rfl⟩
          rw [hcc] at c1 hb1 hb2
          have HC := Lib.hid hcc
          clear hc hb hcc
          obtain ⟨N, hN⟩ : ∃ N, n + c % 128 * 128 ^ k = N := ⟨_, rfl⟩
          have e1 := or_shift k h5 n (c % 128) hn0 hn1 (by omega) (by omega)
          have hNb := getGo_bound hn0 hn1 (show 0 ≤ c % 128 by omega) (by omega)
          rw [hN] at e1 hNb
          have hs := hg.out
          rw [show 5 - k = (4 - k) + 1 from by omega, getGo_in (by omega) HC.out hN] at hs
          have HS := Lib.hid hs
          obtain ⟨hN0, hN1⟩ := hNb
          clear hg hN hs
          by_cases hcl : c < 128
          · by_cases hc0 : c = 0
            · subst hc0
              rw [show (0 : Int) % 128 * 2 ^ (7 * k) = 0 from by simp] at e1
              have e2 : bits .or .i64 n 0 = N := by rw [show wrap64 0 = 0 from by unfold wrap64; omega] at e1; exact e1
              by_cases hbig : 2147483647 < N
              · go_wp2
                all_goals
                  go_ret3
                  rw [HE.out, ← HS.out, if_pos hcl, if_pos (by first | omega | exact Or.inr ⟨trivial, hk0⟩)]
                  exact ⟨rfl, Still.refl _⟩
              · by_cases hk0 : 0 < k
                · go_wp2
                  all_goals
                    go_ret3
                    rw [HE.out, ← HS.out, if_pos hcl, if_pos (by first | omega | exact Or.inr ⟨trivial, hk0⟩)]
                    exact ⟨rfl, Still.refl _⟩
                · go_wp2
                  all_goals
                    go_ret3
                    rw [HE.out, ← HS.out, if_pos hcl, if_neg (by omega)]
                    exact ⟨rfl, Still.refl _⟩
            · by_cases hbig : 2147483647 < N
              · go_wp2
                all_goals
                  go_ret3
                  rw [HE.out, ← HS.out, if_pos hcl, if_pos (by first | omega | exact Or.inr ⟨trivial, hk0⟩)]
                  exact ⟨rfl, Still.refl _⟩
              · go_wp2
                all_goals
                  go_ret3
                  rw [HE.out, ← HS.out, if_pos hcl, if_neg (by omega)]
                  exact ⟨rfl, Still.refl _⟩
          · have hs := HS.out
            rw [if_neg hcl] at hs
            have HT := Lib.hid hs
            clear hs HS
            go_wp2
            go_roundw
            case rel => exact ⟨k + 1, N, by omega, by go_num, rfl, hN0, hN1, by show _ = _; rw [← HT.out]; rw [show 5 - (k + 1) = 4 - k from by omega], by trivial⟩
            case measure => simp [intOf]; omega
        · have hs := hg.out
          rw [show 5 - k = (4 - k) + 1 from by omega, getGo_out (by omega)] at hs
          have HS := Lib.hid hs
          clear hs hg
          go_wp2
          all_goals
            go_ret3
            rw [HE.out, ← HS.out]
            exact ⟨rfl, Still.refl _⟩
      · have hs := hg.out
        rw [show 5 - k = 0 from by omega, getGo] at hs
        have HS := Lib.hid hs
        clear hs hg
        go_wp2
        all_goals
          go_ret3
          rw [HE.out, ← HS.out]
          exact ⟨rfl, Still.refl _⟩
end Go.Proofs.YtdmkhipimcjipaaGreat
end
section
namespace Go.Proofs.YtdmkhipimcjipaaGreat
open Go.RowKit
set_option linter.unusedVariables false
set_option linter.unusedSimpArgs false
def seg (b : List Int) (p q : Nat) : List Int := (b.drop p).take (q - p)
theorem seg_len {b : List Int} {p q : Nat} (h : q ≤ b.length) : (seg b p q).length = q - p := by
  unfold seg; simp only [List.length_take, List.length_drop]; omega
theorem seg_self (b : List Int) (p : Nat) : seg b p p = [] := by unfold seg; rw [Nat.sub_self]; rfl
theorem seg_add {b : List Int} {p q r : Nat} (h1 : p ≤ q) (h2 : q ≤ r) : seg b p q ++ seg b q r = seg b p r := by
  unfold seg
  rw [show r - p = (q - p) + (r - q) by omega, List.take_add, List.drop_drop, show p + (q - p) = q by omega]
theorem seg_cons {b : List Int} {p q : Nat} (h1 : p < q) (h2 : p < b.length) : seg b p q = b.getD p 0 :: seg b (p + 1) q := by
  unfold seg
  rw [List.drop_eq_getElem_cons h2, show q - p = (q - (p + 1)) + 1 by omega, List.take_succ_cons, List.getD_eq_getElem?_getD, List.getElem?_eq_getElem h2]
  rfl
theorem seg_all (b : List Int) : seg b 0 b.length = b := by simp [seg]
theorem getGo_canon {b : List Int} (hb : bytesOk b) (i : Nat) : ∀ (f k : Nat) (n N j : Int), getGo b i f k n = (N, j, true) →
    ∃ m q : Nat, N = n + (m : Int) * 128 ^ k ∧ (k = 0 ∨ m ≠ 0) ∧ j = (q : Int) ∧ i + k < q ∧ q ≤ b.length ∧ putN m = seg b (i + k) q ∧ N ≤ 2147483647 := by
  intro f
  induction f with
  | zero => intro k n N j h; simp [getGo] at h
  | succ f ih =>
    intro k n N j h
    by_cases hl : (i : Int) + k < b.length
    · have hll : i + k < b.length := by omega
      have hc := hb (i + k)
      obtain ⟨c, hcc⟩ : ∃ c, b.getD (i + k) 0 = c := ⟨_, rfl⟩
      rw [hcc] at hc
      obtain ⟨c', rfl⟩ : ∃ c' : Nat, c = (c' : Int) := ⟨c.toNat, by omega⟩
      rw [getGo_in hl (c := (c' : Int)) (by simpa using hcc) rfl] at h
      by_cases h1 : (c' : Int) < 128
      · rw [if_pos h1] at h
        by_cases h2 : 2147483647 < n + (c' : Int) % 128 * 128 ^ k ∨ ((c' : Int) = 0 ∧ 0 < k)
        · rw [if_pos h2] at h; simp at h
        · rw [if_neg h2] at h
          simp only [Prod.mk.injEq, and_true] at h
          obtain ⟨rfl, rfl⟩ := h
          have hm : (c' : Int) % 128 = c' := by omega
          rw [hm] at h2 ⊢
          refine ⟨c', i + k + 1, rfl, ?_, by omega, by omega, by omega, ?_, by omega⟩
          · by_cases hk : k = 0
            · exact .inl hk
            · right; intro h0; apply h2; right; exact ⟨by omega, by omega⟩
          · rw [putN_small (by omega), seg_cons (by omega) hll, hcc, seg_self]
      · rw [if_neg h1] at h
        obtain ⟨m, q, e1, e2, e3, e4, e5, e6, e7⟩ := ih (k + 1) _ N j h
        have hm0 : m ≠ 0 := by rcases e2 with h | h; omega; exact h
        refine ⟨c' % 128 + 128 * m, q, ?_, .inr (by omega), e3, by omega, e5, ?_, e7⟩
        · rw [e1, Int.pow_succ, show ((c' % 128 + 128 * m : Nat) : Int) = (c' : Int) % 128 + 128 * m by omega, Int.add_mul, Int.mul_comm 128 (m : Int), Int.mul_assoc (m : Int) 128, Int.mul_comm 128 (128 ^ k), Int.add_assoc]
        · rw [putN_big (by omega), seg_cons (by omega) hll, hcc, show (c' % 128 + 128 * m) / 128 = m by omega, show (c' % 128 + 128 * m) % 128 = c' % 128 by omega, e6]
          congr 1
          omega
    · rw [getGo_out hl] at h; simp at h
def numAt (b : List Int) (i : Int) : Option (Int × Int) := if (getNum b i).2.2 then some ((getNum b i).1, (getNum b i).2.1) else none
theorem numAt_some {b : List Int} (hb : bytesOk b) {i n j : Int} (h : numAt b i = some (n, j)) : ∃ p q : Nat, i = p ∧ j = q ∧ p < q ∧ q ≤ b.length ∧ putNum n = seg b p q ∧ 0 ≤ n ∧ n ≤ 2147483647 := by
  unfold numAt at h
  unfold getNum at h
  cases hw : inB i 0 (b.length - 1)
  · rw [hw] at h; simp at h
  · rw [hw] at h
    have hi := inB_true.1 hw
    obtain ⟨p, rfl⟩ : ∃ p : Nat, i = p := ⟨i.toNat, by omega⟩
    simp only [if_true] at h
    obtain ⟨r, hr⟩ : ∃ r, getGo b (p : Int) 5 0 0 = r := ⟨_, rfl⟩
    rw [hr] at h
    obtain ⟨N, J, ok⟩ := r
    cases ok
    · simp at h
    · simp only [if_true, Option.some.injEq, Prod.mk.injEq] at h
      obtain ⟨rfl, rfl⟩ := h
      obtain ⟨m, q, e1, _, e3, e4, e5, e6, e7⟩ := getGo_canon hb p 5 0 0 N J hr
      simp only [Int.pow_zero, Int.mul_one, Int.zero_add] at e1
      subst e1
      refine ⟨p, q, rfl, e3, by omega, e5, ?_, by omega, e7⟩
      unfold putNum
      rw [if_pos (inB_true.2 ⟨by omega, e7⟩)]
      simpa using e6
def opsGo (b : List Int) : Nat → Int → List O3 → Option (List O3 × Int)
  | 0, i, acc => some (acc, i)
  | c + 1, i, acc => match numAt b i with
    | none => none
    | some (x, i1) => match numAt b i1 with
      | none => none
      | some (y, i2) => match numAt b i2 with
        | none => none
        | some (z, i3) => opsGo b c i3 (acc ++ [⟨x, y - 1073741824, z⟩])
def funAt (b : List Int) (i : Int) : Option (F2 × Int) := match numAt b i with
  | none => none
  | some (f, i1) => match numAt b i1 with
    | none => none
    | some (m, i2) => match opsGo b m.toNat i2 [] with
      | none => none
      | some (os, i3) => some (⟨f, os⟩, i3)
def funsGo (b : List Int) : Nat → Int → List F2 → Option (List F2 × Int)
  | 0, i, acc => some (acc, i)
  | c + 1, i, acc => match funAt b i with
    | none => none
    | some (x, i1) => funsGo b c i1 (acc ++ [x])
def parseF (b : List Int) : Option (List F2 × Int) := match numAt b 0 with
  | none => none
  | some (n, i) => funsGo b n.toNat i []
def funsOf (b : List Int) : Option (List F2) := match parseF b with
  | none => none
  | some (fs, i) => if i = b.length ∧ funsOk fs = true then some fs else none
theorem opsGo_some {b : List Int} (hb : bytesOk b) : ∀ (c : Nat) (p : Nat) (acc os : List O3) (j : Int), opsGo b c p acc = some (os, j) → p ≤ b.length →
    ∃ (t : List O3) (q : Nat), os = acc ++ t ∧ t.length = c ∧ j = q ∧ p ≤ q ∧ q ≤ b.length ∧ t.flatMap opBytes = seg b p q := by
  intro c
  induction c with
  | zero =>
    intro p acc os j h hp
    simp only [opsGo, Option.some.injEq, Prod.mk.injEq] at h
    obtain ⟨rfl, rfl⟩ := h
    exact ⟨[], p, by simp, rfl, rfl, Nat.le_refl _, hp, by rw [seg_self]; rfl⟩
  | succ c ih =>
    intro p acc os j h hp
    unfold opsGo at h
    cases h1 : numAt b (p : Int) with
    | none => rw [h1] at h; cases h
    | some r1 =>
      obtain ⟨x, i1⟩ := r1
      rw [h1] at h
      dsimp only at h
      obtain ⟨p1, q1, e1, rfl, e3, e4, e5, _, _⟩ := numAt_some hb h1
      obtain rfl : p = p1 := by omega
      cases h2 : numAt b (q1 : Int) with
      | none => rw [h2] at h; cases h
      | some r2 =>
        obtain ⟨y, i2⟩ := r2
        rw [h2] at h
        dsimp only at h
        obtain ⟨p2, q2, f1, rfl, f3, f4, f5, _, _⟩ := numAt_some hb h2
        obtain rfl : q1 = p2 := by omega
        cases h3 : numAt b (q2 : Int) with
        | none => rw [h3] at h; cases h
        | some r3 =>
          obtain ⟨z, i3⟩ := r3
          rw [h3] at h
          dsimp only at h
          obtain ⟨p3, q3, g1, rfl, g3, g4, g5, _, _⟩ := numAt_some hb h3
          obtain rfl : q2 = p3 := by omega
          obtain ⟨t, q, k1, k2, k3, k4, k5, k6⟩ := ih q3 _ os j h g4
          refine ⟨⟨x, y - 1073741824, z⟩ :: t, q, by rw [k1]; simp, by simp [k2], k3, by omega, k5, ?_⟩
          rw [List.flatMap_cons, k6]
          unfold opBytes
          dsimp only
          rw [show y - 1073741824 + 1073741824 = y by omega, e5, f5, g5, seg_add (by omega) (by omega), seg_add (by omega) (by omega), seg_add (by omega) (by omega)]
theorem funAt_some {b : List Int} (hb : bytesOk b) {p : Nat} {x : F2} {j : Int} (h : funAt b p = some (x, j)) : ∃ q : Nat, j = q ∧ p < q ∧ q ≤ b.length ∧ fnBytes x = seg b p q := by
  unfold funAt at h
  cases h1 : numAt b (p : Int) with
  | none => rw [h1] at h; cases h
  | some r1 =>
    obtain ⟨f, i1⟩ := r1
    rw [h1] at h
    dsimp only at h
    obtain ⟨p1, q1, e1, rfl, e3, e4, e5, _, _⟩ := numAt_some hb h1
    obtain rfl : p = p1 := by omega
    cases h2 : numAt b (q1 : Int) with
    | none => rw [h2] at h; cases h
    | some r2 =>
      obtain ⟨m, i2⟩ := r2
      rw [h2] at h
      dsimp only at h
      obtain ⟨p2, q2, f1, rfl, f3, f4, f5, f6, f7⟩ := numAt_some hb h2
      obtain rfl : q1 = p2 := by omega
      cases h3 : opsGo b m.toNat (q2 : Int) [] with
      | none => rw [h3] at h; cases h
      | some r3 =>
        obtain ⟨os, i3⟩ := r3
        rw [h3] at h
        simp only [Option.some.injEq, Prod.mk.injEq] at h
        obtain ⟨rfl, rfl⟩ := h
        obtain ⟨t, q, k1, k2, k3, k4, k5, k6⟩ := opsGo_some hb _ _ _ _ _ h3 f4
        refine ⟨q, k3, by omega, k5, ?_⟩
        rw [List.nil_append] at k1
        subst k1
        unfold fnBytes
        dsimp only
        rw [show ((os.length : Nat) : Int) = m by omega, e5, f5, k6, seg_add (by omega) (by omega), seg_add (by omega) (by omega)]
theorem funsGo_some {b : List Int} (hb : bytesOk b) : ∀ (c : Nat) (p : Nat) (acc fs : List F2) (j : Int), funsGo b c p acc = some (fs, j) → p ≤ b.length →
    ∃ (t : List F2) (q : Nat), fs = acc ++ t ∧ t.length = c ∧ j = q ∧ p ≤ q ∧ q ≤ b.length ∧ t.flatMap fnBytes = seg b p q := by
  intro c
  induction c with
  | zero =>
    intro p acc os j h hp
    simp only [funsGo, Option.some.injEq, Prod.mk.injEq] at h
    obtain ⟨rfl, rfl⟩ := h
    exact ⟨[], p, by simp, rfl, rfl, Nat.le_refl _, hp, by rw [seg_self]; rfl⟩
  | succ c ih =>
    intro p acc os j h hp
    unfold funsGo at h
    cases h1 : funAt b (p : Int) with
    | none => rw [h1] at h; cases h
    | some r1 =>
      obtain ⟨x, i1⟩ := r1
      rw [h1] at h
      dsimp only at h
      obtain ⟨q1, rfl, e3, e4, e5⟩ := funAt_some hb h1
      obtain ⟨t, q, k1, k2, k3, k4, k5, k6⟩ := ih q1 _ os j h e4
      refine ⟨x :: t, q, by rw [k1]; simp, by simp [k2], k3, by omega, k5, ?_⟩
      rw [List.flatMap_cons, k6, e5, seg_add (by omega) (by omega)]
theorem parseF_some {b : List Int} (hb : bytesOk b) {fs : List F2} {j : Int} (h : parseF b = some (fs, j)) : ∃ q : Nat, j = q ∧ 0 < q ∧ q ≤ b.length ∧ funsRaw fs = seg b 0 q := by
  unfold parseF at h
  cases h1 : numAt b 0 with
  | none => rw [h1] at h; cases h
  | some r1 =>
    obtain ⟨n, i1⟩ := r1
    rw [h1] at h
    dsimp only at h
    obtain ⟨p1, q1, e1, rfl, e3, e4, e5, e6, e7⟩ := numAt_some hb h1
    obtain rfl : p1 = 0 := by omega
    obtain ⟨t, q, k1, k2, k3, k4, k5, k6⟩ := funsGo_some hb _ _ _ _ _ h e4
    refine ⟨q, k3, by omega, k5, ?_⟩
    rw [List.nil_append] at k1
    subst k1
    unfold funsRaw
    rw [show ((fs.length : Nat) : Int) = n by omega, e5, k6, seg_add (by omega) (by omega)]
theorem parseF_same {b : List Int} (hb : bytesOk b) {fs : List F2} {j : Int} (h : parseF b = some (fs, j)) : (funsBytes fs = b ∧ b ≠ []) ↔ (j = b.length ∧ funsOk fs = true) := by
  obtain ⟨q, rfl, h1, h2, h3⟩ := parseF_some hb h
  unfold funsBytes
  constructor
  · rintro ⟨h4, h5⟩
    cases hok : funsOk fs
    · rw [hok] at h4
      exact absurd h4.symm h5
    · rw [hok, if_pos rfl, h3] at h4
      have := seg_len (b := b) (p := 0) h2
      rw [h4] at this
      exact ⟨by omega, rfl⟩
  · rintro ⟨h4, h5⟩
    obtain rfl : q = b.length := by omega
    rw [h5, if_pos rfl, h3, seg_all]
    exact ⟨rfl, fun h => by rw [h] at h1; simp at h1⟩
theorem funsOf_of {b : List Int} (hb : bytesOk b) {fs : List F2} {j : Int} (h : parseF b = some (fs, j)) : funsOf b = if funsBytes fs = b ∧ b ≠ [] then some fs else none := by
  unfold funsOf
  rw [h]
  dsimp only
  by_cases hc : j = b.length ∧ funsOk fs = true
  · rw [if_pos hc, if_pos ((parseF_same hb h).2 hc)]
  · rw [if_neg hc, if_neg (fun h' => hc ((parseF_same hb h).1 h'))]
theorem funsOf_none {b : List Int} (h : parseF b = none) : funsOf b = none := by unfold funsOf; rw [h]
theorem numAt_bound {b : List Int} (hb : bytesOk b) {i n j : Int} (h : numAt b i = some (n, j)) : 0 ≤ i ∧ i < j ∧ j ≤ b.length ∧ 0 ≤ n ∧ n ≤ 2147483647 := by
  obtain ⟨p, q, rfl, rfl, h1, h2, h3, h4, h5⟩ := numAt_some hb h
  exact ⟨by omega, by omega, by omega, h4, h5⟩
structure NumRel (b : List Int) (i : Int) (ok : Bool) (n i' : Int) (ok' : Bool) : Prop where
  yes : ok' = true → ok = true ∧ numAt b i = some (n, i')
  no : ok' = false → ok = false ∨ numAt b i = none
  le : i ≤ i'
  len : i' ≤ b.length
  lo : 0 ≤ n
  hi : n ≤ 2147483647
end Go.Proofs.YtdmkhipimcjipaaGreat
end
