/- The bytes of functions: what FunsBytes makes. Plain law. -/
import Derived.Test.YtkpkofddfjgmpaaFunsOk
import Derived.Test.YtkpkofddfjgmpaaPutNum
namespace Go.Proofs.Ytkpkofddfjgmpaa
open Go.RowKit
set_option linter.unusedVariables false
set_option linter.unusedSimpArgs false

theorem putN_len5 (n : Nat) (h : n ≤ 2147483647) : (putN n).length ≤ 5 := by
  have s : ∀ m, m ≤ 127 → (putN m).length ≤ 1 := fun m hm => by rw [putN_small (by omega)]; simp
  have g : ∀ (b c : Nat), (∀ m, m ≤ c → (putN m).length ≤ b) → ∀ m, m ≤ 128 * c + 127 → (putN m).length ≤ b + 1 := by
    intro b c hb m hm
    by_cases h : 127 < m
    · rw [putN_big h, List.length_cons]
      have := hb (m / 128) (by omega)
      omega
    · rw [putN_small h]; simp
  exact g _ _ (g _ _ (g _ _ (g _ _ s))) n (by omega)
theorem putNum_len5 (n : Int) : (putNum n).length ≤ 5 := by
  unfold putNum
  cases hw : inB n 0 2147483647
  · simp
  · have := inB_true.1 hw
    simpa using putN_len5 n.toNat (by omega)
theorem putNum_pos (n : Int) (h : inB n 0 2147483647 = true) : 1 ≤ (putNum n).length := by
  unfold putNum
  rw [if_pos h]
  by_cases h2 : 127 < n.toNat
  · rw [putN_big h2]; simp
  · rw [putN_small h2]; simp
theorem putN_in (n : Nat) : ∀ x ∈ putN n, 0 ≤ x ∧ x ≤ 255 := by
  induction n using Nat.strongRecOn with
  | _ n ih =>
    intro x hx
    by_cases h : 127 < n
    · rw [putN_big h, List.mem_cons] at hx
      rcases hx with rfl | hx
      · omega
      · exact ih _ (by omega) x hx
    · rw [putN_small h, List.mem_singleton] at hx
      omega
theorem putNum_in (n : Int) : ∀ x ∈ putNum n, 0 ≤ x ∧ x ≤ 255 := by
  intro x hx
  unfold putNum at hx
  split at hx
  · exact putN_in _ x hx
  · simp at hx
def opBytes (o : O3) : List Int := putNum o.c ++ (putNum (o.n + 1073741824) ++ putNum o.m)
def fnBytes (x : F2) : List Int := (putNum x.f ++ putNum (x.os.length : Int)) ++ x.os.flatMap opBytes
def funsRaw (fs : List F2) : List Int := putNum (fs.length : Int) ++ fs.flatMap fnBytes
def funsBytes (fs : List F2) : List Int := if funsOk fs then funsRaw fs else []
theorem flatMap_snoc {α β : Type} (f : α → List β) (xs : List α) {k : Nat} (h : k < xs.length) : (xs.take (k + 1)).flatMap f = (xs.take k).flatMap f ++ f xs[k] := by
  rw [← List.take_append_getElem h, List.flatMap_append, List.flatMap_cons, List.flatMap_nil, List.append_nil]
theorem flatMap_len {α β : Type} {f : α → List β} {b : Nat} : ∀ (xs : List α), (∀ x ∈ xs, (f x).length ≤ b) → (xs.flatMap f).length ≤ b * xs.length := by
  intro xs
  induction xs with
  | nil => intro _; simp
  | cons x xs ih =>
    intro h
    rw [List.flatMap_cons, List.length_append, List.length_cons, Nat.mul_add]
    have := h x (by simp)
    have := ih (fun y hy => h y (by simp [hy]))
    omega
theorem opBytes_len (o : O3) : (opBytes o).length ≤ 15 := by
  unfold opBytes
  have := putNum_len5 o.c
  have := putNum_len5 (o.n + 1073741824)
  have := putNum_len5 o.m
  simp only [List.length_append]
  omega
theorem fnBytes_len (x : F2) (h : x.os.length ≤ 3000) : (fnBytes x).length ≤ 45010 := by
  unfold fnBytes
  have := putNum_len5 x.f
  have := putNum_len5 (x.os.length : Int)
  have := flatMap_len (f := opBytes) (b := 15) x.os (fun o _ => opBytes_len o)
  simp only [List.length_append]
  omega
theorem funsOk_parts {fs : List F2} (h : funsOk fs = true) : (1 ≤ fs.length ∧ fs.length ≤ 60) ∧ (∀ x ∈ fs, (0 ≤ x.f ∧ x.f ≤ 20) ∧ 1 ≤ x.os.length ∧ x.os.length ≤ 3000) ∧ ∀ i (hi : i < fs.length), ∀ o ∈ fs[i].os, opOk fs i o = true := by
  unfold funsOk at h
  rw [Bool.and_eq_true, Bool.and_eq_true, Bool.and_eq_true, List.all_eq_true, List.all_eq_true] at h
  obtain ⟨⟨h1, h2⟩, h3, h4⟩ := h
  have h1 := inB_true.1 h1
  refine ⟨by omega, fun x hx => ?_, fun i hi o ho => ?_⟩
  · have := h3 x hx
    unfold fnHead at this
    rw [Bool.and_eq_true] at this
    have a := inB_true.1 this.1
    have b := inB_true.1 this.2
    omega
  · have := h4 i (List.mem_range.2 hi)
    unfold fnOk at this
    rw [fs_getD hi, Bool.and_eq_true, List.all_eq_true] at this
    exact this.1 o ho
theorem funsRaw_len {fs : List F2} (h : funsOk fs = true) : (funsRaw fs).length ≤ 2700605 := by
  obtain ⟨h1, h2, _⟩ := funsOk_parts h
  unfold funsRaw
  have := putNum_len5 (fs.length : Int)
  have := flatMap_len (f := fnBytes) (b := 45010) fs (fun x hx => fnBytes_len x (h2 x hx).2.2)
  rw [List.length_append]
  omega
theorem opOk_n {fs : List F2} (hh : ∀ x ∈ fs, (0 ≤ x.f ∧ x.f ≤ 20) ∧ 1 ≤ x.os.length ∧ x.os.length ≤ 3000) (hl : fs.length ≤ 60) {i : Nat} (hi : i < fs.length) {o : O3} (h : opOk fs i o = true) :
    (1 ≤ o.c ∧ o.c ≤ 21) ∧ (-1073741824 ≤ o.n ∧ o.n ≤ 1073741823) ∧ (0 ≤ o.m ∧ o.m ≤ 3000) := by
  have hx := hh _ (List.getElem_mem hi)
  have hg : fs.getD i ⟨0, []⟩ = fs[i] := fs_getD hi
  unfold opOk at h
  rw [hg] at h
  generalize fs[i] = x at hx h
  dsimp only at h
  have hz : ∀ k : Int, inB k 1 ((fs.length : Int) - 1) = true → 0 ≤ (fs.getD k.toNat ⟨0, []⟩).f ∧ (fs.getD k.toNat ⟨0, []⟩).f ≤ 20 := by
    intro k hk
    have := inB_true.1 hk
    have hkl : k.toNat < fs.length := by omega
    have h2 := hh _ (List.getElem_mem hkl)
    have hg : fs.getD k.toNat ⟨0, []⟩ = fs[k.toNat] := fs_getD hkl
    rw [hg]
    omega
  have hW : ∀ k : Int, wordB k = inB k (-1073741824) 1073741823 := fun _ => rfl
  repeat' split at h
  all_goals (try simp only [Bool.and_eq_true, hW, beq_iff_eq, decide_eq_true_eq] at h)
  case isFalse.isFalse.isFalse.isFalse.isTrue => 
    obtain ⟨h1, h2⟩ := h
    have := hz _ h1
    have := inB_true.1 h1
    omega
  all_goals ((try simp only [inB_true] at h); omega)
theorem opBytes_in (o : O3) : ∀ x ∈ opBytes o, 0 ≤ x ∧ x ≤ 255 := by
  intro x hx
  unfold opBytes at hx
  simp only [List.mem_append] at hx
  rcases hx with h | h | h <;> exact putNum_in _ x h
theorem fnBytes_in (y : F2) : ∀ x ∈ fnBytes y, 0 ≤ x ∧ x ≤ 255 := by
  intro x hx
  unfold fnBytes at hx
  simp only [List.mem_append, List.mem_flatMap] at hx
  rcases hx with (h | h) | ⟨o, _, h⟩
  · exact putNum_in _ x h
  · exact putNum_in _ x h
  · exact opBytes_in o x h
theorem funsBytes_in (fs : List F2) : ∀ x ∈ funsBytes fs, 0 ≤ x ∧ x ≤ 255 := by
  intro x hx
  unfold funsBytes at hx
  split at hx
  · unfold funsRaw at hx
    simp only [List.mem_append, List.mem_flatMap] at hx
    rcases hx with h | ⟨o, _, h⟩
    · exact putNum_in _ x h
    · exact fnBytes_in o x h
  · simp at hx
theorem mem_bytes {b : List Int} (h : ∀ x ∈ b, 0 ≤ x ∧ x ≤ 255) : ∀ j, 0 ≤ b.getD j 0 ∧ b.getD j 0 ≤ 255 := by
  intro j
  by_cases hj : j < b.length
  · rw [List.getD_eq_getElem?_getD, List.getElem?_eq_getElem hj]
    exact h _ (List.getElem_mem hj)
  · rw [List.getD_eq_getElem?_getD, List.getElem?_eq_none (by omega)]
    simp

end Go.Proofs.Ytkpkofddfjgmpaa
