/- Functions that are right, and which of them are verified. Plain. -/
import Derived.Test.YtlkdlcpfcacigaaDepG
import Derived.Test.YtlkdlcpfcacigaaMgOpOk
namespace Go.Proofs.Ytlkdlcpfcacigaa
open Go.RowKit
set_option linter.unusedVariables false
set_option linter.unusedSimpArgs false

theorem opOk_all {fs : List F2} {i : Nat} {o : O3} {n : Nat} (hl : (fs.getD i ⟨0, []⟩).os.length = n) (hf : ∀ k : Int, inB k 1 ((fs.length : Int) - 1) = true → 0 ≤ (fs.getD k.toNat ⟨0, []⟩).f ∧ (fs.getD k.toNat ⟨0, []⟩).f ≤ 20) (hn : 1 ≤ n ∧ n ≤ 3000) (hi : 0 ≤ (fs.getD i ⟨0, []⟩).f ∧ (fs.getD i ⟨0, []⟩).f ≤ 20) (hfs : fs.length ≤ 60) (h : opOk fs i o = true) :
    ((1 ≤ o.c ∧ o.c ≤ 21) ∧ (-1073741824 ≤ o.n ∧ o.n ≤ 1073741823) ∧ (0 ≤ o.m ∧ o.m ≤ 3000)) ∧ ((o.c = 10 ∨ o.c = 11 → 0 ≤ o.m ∧ o.m < n) ∧ (o.c = 18 ∨ o.c = 19 → 0 ≤ o.n ∧ o.n < n)) := by
  unfold opOk at h
  rw [hl] at h
  generalize (fs.getD i ⟨0, []⟩).f = z at hi h
  dsimp only at h
  have hW : ∀ k : Int, wordB k = inB k (-1073741824) 1073741823 := fun _ => rfl
  repeat' split at h
  all_goals (try simp only [Bool.and_eq_true, hW, beq_iff_eq, decide_eq_true_eq] at h)
  case isFalse.isFalse.isFalse.isFalse.isTrue =>
    obtain ⟨h1, h2⟩ := h
    have := hf _ h1
    have := inB_true.1 h1
    refine ⟨by omega, by omega⟩
  all_goals ((try simp only [inB_true] at h); refine ⟨by omega, by omega⟩)
theorem fn_parts {fs : List F2} (h : funsOk fs = true) : (1 ≤ fs.length ∧ fs.length ≤ 60) ∧ ∀ i, i < fs.length → ((0 ≤ (fs.getD i fn0).f ∧ (fs.getD i fn0).f ≤ 20) ∧ 1 ≤ (fs.getD i fn0).os.length ∧ (fs.getD i fn0).os.length ≤ 3000) ∧ (∀ o ∈ (fs.getD i fn0).os, opOk fs i o = true) ∧ fnLast (fs.getD i fn0) = true := by
  unfold funsOk at h
  rw [Bool.and_eq_true, Bool.and_eq_true, Bool.and_eq_true, List.all_eq_true, List.all_eq_true] at h
  obtain ⟨⟨h1, h2⟩, h3, h4⟩ := h
  have h1 := inB_true.1 h1
  refine ⟨by omega, fun i hi => ⟨?_, ?_⟩⟩
  · have := h3 (fs.getD i fn0) (by rw [fs_getD hi]; exact List.getElem_mem hi)
    unfold fnHead at this
    rw [Bool.and_eq_true] at this
    have a := inB_true.1 this.1
    have b := inB_true.1 this.2
    omega
  · have := h4 i (List.mem_range.2 hi)
    unfold fnOk at this
    rw [Bool.and_eq_true, List.all_eq_true] at this
    exact this
theorem opT_at (os : List O3) (p : Nat) (hp : p < os.length) : opT os p ∈ os := by
  unfold opT
  rw [Int.toNat_natCast, List.getD_eq_getElem?_getD, List.getElem?_eq_getElem hp]
  exact List.getElem_mem hp
theorem fn_code {fs : List F2} (h : funsOk fs = true) {i : Nat} (hi : i < fs.length) : CodeOk (fs.getD i fn0).os ∧ ∀ p : Nat, p < (fs.getD i fn0).os.length → (1 ≤ (opT (fs.getD i fn0).os p).c ∧ (opT (fs.getD i fn0).os p).c ≤ 21) ∧ (-2147483648 ≤ (opT (fs.getD i fn0).os p).n ∧ (opT (fs.getD i fn0).os p).n ≤ 2147483648) ∧ (-2147483648 ≤ (opT (fs.getD i fn0).os p).m ∧ (opT (fs.getD i fn0).os p).m ≤ 2147483648) := by
  obtain ⟨h1, h2⟩ := fn_parts h
  obtain ⟨⟨f1, f2⟩, f3, f4⟩ := h2 i hi
  have hf : ∀ k : Int, inB k 1 ((fs.length : Int) - 1) = true → 0 ≤ (fs.getD k.toNat ⟨0, []⟩).f ∧ (fs.getD k.toNat ⟨0, []⟩).f ≤ 20 := fun k hk => by
    have := inB_true.1 hk
    exact (h2 k.toNat (by omega)).1.1
  have key : ∀ p : Nat, p < (fs.getD i fn0).os.length → _ := fun p hp => opOk_all (n := (fs.getD i fn0).os.length) rfl hf f2 f1 h1.2 (f3 _ (opT_at _ p hp))
  have hlast : ∀ p : Nat, p < (fs.getD i fn0).os.length → ¬ ((opT (fs.getD i fn0).os p).c = 7 ∨ (opT (fs.getD i fn0).os p).c = 19 ∨ (opT (fs.getD i fn0).os p).c = 21) → p + 1 < (fs.getD i fn0).os.length := fun p hp hc => by
    by_cases e : p + 1 < (fs.getD i fn0).os.length
    · exact e
    · exfalso
      apply hc
      have : p = (fs.getD i fn0).os.length - 1 := by omega
      unfold fnLast lastC at f4
      simp only [Bool.or_eq_true, beq_iff_eq] at f4
      unfold opT
      rw [Int.toNat_natCast, this]
      omega
  generalize (fs.getD i fn0).os = os at f2 key hlast ⊢
  refine ⟨⟨f2.1, f2.2, fun p hp q hq => ?_⟩, fun p hp => ?_⟩
  · obtain ⟨⟨k1, k2, k3⟩, k4, k5⟩ := key p hp
    have hl := hlast p hp
    unfold fol at hq
    split at hq
    · cases hq
    · split at hq
      · rw [List.mem_singleton] at hq; subst hq
        have := k5 (by omega)
        exact this
      · split at hq
        · have hn := hl (by omega)
          have := k4 (by omega)
          simp only [List.mem_cons, List.mem_singleton, List.not_mem_nil, or_false] at hq
          rcases hq with rfl | rfl <;> omega
        · split at hq
          · have hn := hl (by omega)
            have := k5 (by omega)
            simp only [List.mem_cons, List.mem_singleton, List.not_mem_nil, or_false] at hq
            rcases hq with rfl | rfl <;> omega
          · have hn := hl (by omega)
            rw [List.mem_singleton] at hq; subst hq
            omega
  · obtain ⟨⟨k1, k2, k3⟩, _⟩ := key p hp
    omega
/-- the search comes to its end. -/
def okB (fl : O3 → Int → List Int) (os : List O3) : Bool := match dRun fl os (os.length + 1) (dFirst os) [0] with
  | some (some _) => true
  | _ => false
theorem okB_same {os : List O3} (hc : CodeOk os) {fl : O3 → Int → List Int} (hfl : ∀ o p q, q ∈ fl o p ↔ q ∈ fol o p) : okB fl os = okB fol os := by
  unfold okB
  rcases dRun_all hc hfl with ⟨h1, h2⟩ | ⟨r, h1, h2⟩
  · rcases dRun_all hc (fl := fol) (fun _ _ _ => Iff.rfl) with ⟨h3, h4⟩ | ⟨r', h3, h4⟩
    · rw [h1, h3]
    · exact absurd h4 h2
  · rcases dRun_all hc (fl := fol) (fun _ _ _ => Iff.rfl) with ⟨h3, h4⟩ | ⟨r', h3, h4⟩
    · exact absurd h2 h4
    · rw [h1, h3]
theorem okB_run {os : List O3} (hc : CodeOk os) {fl : O3 → Int → List Int} (hfl : ∀ o p q, q ∈ fl o p ↔ q ∈ fol o p) : ∃ r, dRun fl os (os.length + 1) (dFirst os) [0] = some r ∧ okB fl os = r.isSome := by
  unfold okB
  rcases dRun_all hc hfl with ⟨h1, h2⟩ | ⟨r, h1, h2⟩
  · exact ⟨none, h1, by rw [h1]; rfl⟩
  · exact ⟨some r, h1, by rw [h1]; rfl⟩
/-- functions that are verified. -/
def verB (fs : List F2) : Bool := funsOk fs && (List.range fs.length).all (fun i => okB fol (fs.getD i fn0).os)
theorem verB_no {fs : List F2} (h : funsOk fs = false) : verB fs = false := by unfold verB; rw [h]; rfl
theorem verB_bad {fs : List F2} {i : Nat} (hi : i < fs.length) (h : okB fol (fs.getD i fn0).os = false) : verB fs = false := by
  have : (List.range fs.length).all (fun i => okB fol (fs.getD i fn0).os) = false := by
    rw [List.all_eq_false]
    exact ⟨i, List.mem_range.2 hi, by rw [h]; decide⟩
  unfold verB
  rw [this, Bool.and_false]
theorem verB_yes {fs : List F2} (h : funsOk fs = true) (h2 : ∀ i, i < fs.length → okB fol (fs.getD i fn0).os = true) : verB fs = true := by
  unfold verB
  rw [h, Bool.true_and, List.all_eq_true]
  exact fun i hi => h2 i (List.mem_range.1 hi)

end Go.Proofs.Ytlkdlcpfcacigaa
