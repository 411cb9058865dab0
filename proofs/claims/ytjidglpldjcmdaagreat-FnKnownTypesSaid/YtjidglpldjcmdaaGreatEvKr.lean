/-
What the law does after it has drawn its number: it returns true, and what lay below stays.
-/
import Derived.Test.YtjidglpldjcmdaaGreatEvKc0
import Derived.Test.YtjidglpldjcmdaaGreatEvKc1
import Derived.Test.YtjidglpldjcmdaaGreatEvKc2
import Derived.Test.YtjidglpldjcmdaaGreatEvKc3
import Derived.WalkKit
set_option linter.unusedVariables false
set_option maxRecDepth 1000000
namespace Go.Ev
open Go Go.Proofs.Tryz Go.RowKit

noncomputable def textsA : Array Value := #[.string ⟨#[102, 117, 110, 32, 120, 32, 45, 62, 32, 120]⟩, .string ⟨#[102, 117, 110, 32, 102, 32, 45, 62, 32, 102, 117, 110, 32, 103, 32, 45, 62, 32, 102, 117, 110, 32, 120, 32, 45, 62, 32, 102, 32, 40, 103, 32, 120, 41]⟩, .string ⟨#[102, 117, 110, 32, 120, 32, 45, 62, 32, 102, 117, 110, 32, 121, 32, 45, 62, 32, 120]⟩, .string ⟨#[102, 117, 110, 32, 102, 32, 45, 62, 32, 102, 117, 110, 32, 120, 32, 45, 62, 32, 102, 32, 40, 102, 32, 120, 41]⟩, .string ⟨#[108, 101, 116, 32, 105, 100, 32, 61, 32, 102, 117, 110, 32, 120, 32, 45, 62, 32, 120, 32, 105, 110, 32, 105, 100, 32, 105, 100]⟩, .string ⟨#[102, 117, 110, 32, 120, 32, 45, 62, 32, 120, 32, 120]⟩, .string ⟨#[114, 101, 99, 32, 102, 32, 120, 32, 61, 32, 102, 32, 120, 32, 105, 110, 32, 102]⟩, .string ⟨#[102, 117, 110, 32, 120, 32, 45, 62, 32, 120, 32, 43, 32, 49]⟩, .string ⟨#[100, 97, 116, 97, 32, 79, 112, 116, 32, 97, 32, 61, 32, 78, 111, 110, 101, 32, 124, 32, 83, 111, 109, 101, 32, 97, 59, 32, 102, 117, 110, 32, 102, 32, 45, 62, 32, 102, 117, 110, 32, 111, 32, 45, 62, 32, 99, 97, 115, 101, 32, 111, 32, 111, 102, 32, 123, 32, 78, 111, 110, 101, 32, 45, 62, 32, 78, 111, 110, 101, 59, 32, 83, 111, 109, 101, 32, 120, 32, 45, 62, 32, 83, 111, 109, 101, 32, 40, 102, 32, 120, 41, 32, 125]⟩]
noncomputable def wantsA : Array Value := #[.string ⟨#[40, 97, 32, 45, 62, 32, 97, 41]⟩, .string ⟨#[40, 40, 97, 32, 45, 62, 32, 98, 41, 32, 45, 62, 32, 40, 40, 99, 32, 45, 62, 32, 97, 41, 32, 45, 62, 32, 40, 99, 32, 45, 62, 32, 98, 41, 41, 41]⟩, .string ⟨#[40, 97, 32, 45, 62, 32, 40, 98, 32, 45, 62, 32, 97, 41, 41]⟩, .string ⟨#[40, 40, 97, 32, 45, 62, 32, 97, 41, 32, 45, 62, 32, 40, 97, 32, 45, 62, 32, 97, 41, 41]⟩, .string ⟨#[40, 97, 32, 45, 62, 32, 97, 41]⟩, .string ⟨#[]⟩, .string ⟨#[40, 97, 32, 45, 62, 32, 98, 41]⟩, .string ⟨#[40, 73, 110, 116, 32, 45, 62, 32, 73, 110, 116, 41]⟩, .string ⟨#[40, 40, 97, 32, 45, 62, 32, 98, 41, 32, 45, 62, 32, 40, 40, 79, 112, 116, 32, 97, 41, 32, 45, 62, 32, 40, 79, 112, 116, 32, 98, 41, 41, 41]⟩]
theorem texts_rel (ρ : Rho) : LR (SR ρ) textsL textsA.toList := by
  refine ⟨⟨_, rfl, rfl⟩, ⟨_, rfl, rfl⟩, ⟨_, rfl, rfl⟩, ⟨_, rfl, rfl⟩, ⟨_, rfl, rfl⟩, ⟨_, rfl, rfl⟩, ⟨_, rfl, rfl⟩, ⟨_, rfl, rfl⟩, ⟨_, rfl, rfl⟩, trivial⟩
theorem wants_rel (ρ : Rho) : LR (SR ρ) wantsL wantsA.toList := by
  refine ⟨⟨_, rfl, rfl⟩, ⟨_, rfl, rfl⟩, ⟨_, rfl, rfl⟩, ⟨_, rfl, rfl⟩, ⟨_, rfl, rfl⟩, ⟨_, rfl, rfl⟩, ⟨_, rfl, rfl⟩, ⟨_, rfl, rfl⟩, ⟨_, rfl, rfl⟩, trivial⟩
/-- The blocks of the two lists. -/
def rhoK (n : Nat) : Rho := (rho0.with 0 (n, 0, 9)).with 1 (n + 1, 0, 9)
theorem rel_K (w : World) : Rel (rhoK w.heap.size) sK ((w.alloc (.cells textsA 9)).alloc (.cells wantsA 9)) := by
  have h1 := ((Rel.zero w).alloc (texts_rel _) 9).1
  have h2 := (h1.alloc (wants_rel _) 9).1
  have e : (w.alloc (.cells textsA 9)).heap.size = w.heap.size + 1 := by simp
  rw [e] at h2
  exact h2
theorem rhoK_ge (n : Nat) (x cb sh z : Nat) (h : rhoK n x = some (cb, sh, z)) : n ≤ cb := by
  unfold rhoK at h
  by_cases h1 : x = 1
  · subst h1
    rw [Rho.with_at] at h
    simp only [Option.some.injEq, Prod.mk.injEq] at h
    omega
  · rw [Rho.with_ne h1] at h
    by_cases h0 : x = 0
    · subst h0
      rw [Rho.with_at] at h
      simp only [Option.some.injEq, Prod.mk.injEq] at h
      omega
    · rw [Rho.with_ne h0] at h
      cases h
theorem orcs_ok : ∀ o ∈ orcs, OrOk prog o := by
  intro o ho
  unfold orcs at ho
  simp only [List.mem_cons, List.not_mem_nil, or_false] at ho
  rcases ho with rfl | rfl | rfl | rfl | rfl | rfl | rfl | rfl | rfl | rfl | rfl | rfl | rfl | rfl | rfl | rfl | rfl | rfl
  · exact orOk_of callT_ok rfl rfl runI0
  · exact orOk_of callT_ok rfl rfl runS0
  · exact orOk_of callT_ok rfl rfl runI1
  · exact orOk_of callT_ok rfl rfl runS1
  · exact orOk_of callT_ok rfl rfl runI2
  · exact orOk_of callT_ok rfl rfl runS2
  · exact orOk_of callT_ok rfl rfl runI3
  · exact orOk_of callT_ok rfl rfl runS3
  · exact orOk_of callT_ok rfl rfl runI4
  · exact orOk_of callT_ok rfl rfl runS4
  · exact orOk_of callT_ok rfl rfl runI5
  · exact orOk_of callT_ok rfl rfl runS5
  · exact orOk_of callT_ok rfl rfl runI6
  · exact orOk_of callT_ok rfl rfl runS6
  · exact orOk_of callT_ok rfl rfl runI7
  · exact orOk_of callT_ok rfl rfl runS7
  · exact orOk_of callT_ok rfl rfl runI8
  · exact orOk_of callT_ok rfl rfl runS8
theorem callK_ok : CallOk prog callK := orc_ok (noExt_ok prog) orcs_ok
theorem runs (k : Nat) (h : k < 9) : runK k = true :=
  match k, h with
  | 0, _ => by decide +kernel | 1, _ => by decide +kernel | 2, _ => by decide +kernel | 3, _ => by decide +kernel | 4, _ => by decide +kernel
  | 5, _ => by decide +kernel | 6, _ => by decide +kernel | 7, _ => by decide +kernel | 8, _ => by decide +kernel
  | _ + 9, h => absurd h (by omega)
theorem kn_rest (k : Nat) (hk : k < 9) (w : World) (a : Act) (h3 : a.tmps.getD 3 undef = .slice (some ⟨w.heap.size, 0, none⟩) 9 9) (h4 : a.tmps.getD 4 undef = .slice (some ⟨w.heap.size + 1, 0, none⟩) 9 9)
    (h5 : a.tmps.getD 5 undef = .int .i64 k) (hf : FrOk 61 a) {Q : Exit → Act → World → Prop} (hQ : ∀ a' w', a'.tmps.getD 2 undef = .bool true → Below w.heap.size w w' → a'.defers = [] → Q .ret a' w') :
    rest.wp prog Q a ((w.alloc (.cells textsA 9)).alloc (.cells wantsA 9)) := by
  have hr := rel_K w
  have he : ER (rhoK w.heap.size) (eK k) a := by
    refine ER.upd (ER.upd (ER.upd ER.lf ?_) ?_) ?_
    · rw [h3]
      exact ⟨w.heap.size, 0, 9, _, 9, rfl, rfl, Nat.le_refl _, fun _ => rfl, fun _ => rfl, by decide, by decide⟩
    · rw [h4]
      exact ⟨w.heap.size + 1, 0, 9, _, 9, rfl, rfl, Nat.le_refl _, fun _ => rfl, fun _ => rfl, by decide, by decide⟩
    · rw [h5]; rfl
  refine code_from tyOk ibsOk follows callK_ok restOk he hr hf (t := 2) (b := true) (runs k hk) fun a' w' s' ρ' k1 k2 k3 => hQ a' w' k1 ?_ k3
  have b2 : Below w.heap.size w ((w.alloc (.cells textsA 9)).alloc (.cells wantsA 9)) := ((Below.refl _ w).alloc (Nat.le_refl _) _).alloc (by simp) _
  exact b2.trans (k2.below b2.size (rhoK_ge _))
end Go.Ev
