/- VmNew, impl's and the reference's: one contract for both ways. -/
import Derived.Test.YtlkdlcpfcacigaaMgOut
import Derived.Test.YtlkdlcpfcacigaaNewYS
import Derived.Test.YtlkdlcpfcacigaaNewS
import Derived.Test.YtlkdlcpfcacigaaNewI
import Derived.Test.YtlkdlcpfcacigaaMgDepI
namespace Go.Proofs.Ytlkdlcpfcacigaa
open Go.RowKit
set_option linter.unusedVariables false
set_option linter.unusedSimpArgs false

theorem NewRows.own_m {b : Nat} {W : World} {fv hv sv cv : Value} {fs : List F2} {half : Nat} (N : NewRows (b + 1) W fv hv sv cv fs half) (each : Bool) : OwnM b W.heap.size W fv hv sv cv (.slice none 0 0) (newL fs half each) := by
  obtain ⟨⟨f, z, s, c⟩, a, e, g, s1, c1, p1, p2, of, ⟨hg, hs, hc, hn⟩⟩ := N
  have lz := own_lt z
  have ls := own_lt s
  have lc := own_lt c
  refine ⟨Nat.le_refl _, ?_, own_base s (Nat.le_succ _), own_base c (Nat.le_succ _), World.ownsRow_nil _ _ _ _, ⟨a, e, by omega, p2, of, ?_, ?_, ?_, ?_⟩, ?_, ?_, ?_, ?_, ?_, ?_⟩
  · show W.ownsRow b 3 1 hv (List.replicate (2 * half) 0).length _
    rw [List.length_replicate]
    exact own_base z (Nat.le_succ _)
  · intro k hk
    have := lz k hk
    rw [hg] at hk
    obtain rfl := Option.some.inj hk
    omega
  · intro k hk
    have := ls k hk
    rw [hs] at hk
    obtain rfl := Option.some.inj hk
    omega
  · intro k hk
    have := lc k hk
    rw [hc] at hk
    obtain rfl := Option.some.inj hk
    omega
  · intro k hk
    cases hk
  · intro p q hp hq
    rw [hg] at hp
    rw [hs] at hq
    obtain rfl := Option.some.inj hp
    obtain rfl := Option.some.inj hq
    omega
  · intro p q hp hq
    rw [hg] at hp
    rw [hc] at hq
    obtain rfl := Option.some.inj hp
    obtain rfl := Option.some.inj hq
    omega
  · intro p q hp hq
    cases hq
  · intro p q hp hq
    rw [hs] at hp
    rw [hc] at hq
    obtain rfl := Option.some.inj hp
    obtain rfl := Option.some.inj hq
    omega
  · intro p q hp hq
    cases hq
  · intro p q hp hq
    cases hq
theorem no_own_m (b hi : Nat) (W : World) (hb : b ≤ hi) (hh : hi ≤ W.heap.size) : OwnM b hi W nilV nilV nilV nilV nilV noL :=
  ⟨hh, World.ownsRow_nil _ _ _ _, World.ownsRow_nil _ _ _ _, World.ownsRow_nil _ _ _ _, World.ownsRow_nil _ _ _ _,
    ⟨b, b, Nat.le_refl _, hb, OwnH.nil (World.ownsRow_nil _ _ _ _) (fun q hq => by cases hq), (fun k hk => by cases hk), (fun k hk => by cases hk), (fun k hk => by cases hk), (fun k hk => by cases hk)⟩,
    (fun p q hp => by cases hp), (fun p q hp => by cases hp), (fun p q hp => by cases hp), (fun p q hp => by cases hp), (fun p q hp => by cases hp), (fun p q hp => by cases hp)⟩

theorem vmNew_kit (fs : List F2) (half : Int) (each : Bool) (hin : ∀ x ∈ fs, fnIn x) (hlen : fs.length ≤ 4294967296) : ∃ (R : VmL) (ok : Bool), mk5 R ≤ 1048576000 ∧
    (∀ (B : Nat) (v : Value) (W : World), RdF B W v fs → Calls Try.prog 5 #[v, .int .i64 half, .bool each] W fun e w' => ∃ f h s c o, e = .returned (.tuple #[vmV f h s c o R, .bool ok]) ∧ RdV w'.heap.size w' f h s c o R ∧ Below W.heap.size W w') ∧
    (∀ (B : Nat) (v : Value) (W : World), RdF B W v fs → Calls Try.prog 7 #[v, .int .i64 half, .bool each] W fun e w' => ∃ f h s c o, e = .returned (.tuple #[vmV f h s c o R, .bool ok]) ∧ OwnM W.heap.size w'.heap.size w' f h s c o R ∧ Below W.heap.size W w') := by
  by_cases hno : inB half 1 3000 = false ∨ verB fs = false
  · refine ⟨noL, false, by decide, fun B v W hr => (sVmNew_no v fs half each W hr hin hlen hno).mono ?_, fun B v W hr => (iVmNew_no v fs half each W hr hin hlen hno).mono ?_⟩
    · rintro e w' ⟨rfl, hb⟩
      exact ⟨_, _, _, _, _, rfl, (no_own_m 0 0 w' (Nat.le_refl _) (Nat.zero_le _)).rd, hb⟩
    · rintro e w' ⟨rfl, hb⟩
      exact ⟨_, _, _, _, _, rfl, no_own_m _ _ w' hb.size (Nat.le_refl _), hb⟩
  · have h1 : inB half 1 3000 = true := by simpa using fun h => hno (.inl h)
    have hv : verB fs = true := by simpa using fun h => hno (.inr h)
    have hb := inB_true.1 h1
    obtain ⟨n, rfl⟩ : ∃ n : Nat, half = (n : Int) := ⟨half.toNat, by omega⟩
    have hsm := ver_small hv
    refine ⟨newL fs n each, true, ?_, fun B v W hr => (sVmNew_yes v fs n each W hr hin hv (by omega) (by omega)).mono ?_, fun B v W hr => (iVmNew_rows v fs n each W hr (by omega) (by omega) (by omega) (by omega) (B0 := W.heap.size) ?_).mono ?_⟩
    · have := offF_all fs
      unfold mk5 mk4 mk3 mk2 mk1 newL
      simp only [List.length_replicate, List.length_cons, List.length_nil]
      omega
    · rintro e w' ⟨f, h, s, c, rfl, N, hb'⟩
      exact ⟨f, h, s, c, .slice none 0 0, rfl, N.rdV each, hb'⟩
    · intro W2 hb2
      have := iVerify_any v fs W2 (hr.below' hb2) hin hlen
      rw [hv] at this
      refine this.mono ?_
      rintro e w' ⟨rfl, hb3⟩
      exact ⟨rfl, ⟨Nat.le_refl _, hb2.trans (hb3.mono hb2.size), hr.below' (hb2.trans (hb3.mono hb2.size))⟩, ⟨hb3.size, fun k _ hk => hb3.block k hk⟩⟩
    · rintro e w' ⟨f, h, s, c, rfl, N, hb'⟩
      exact ⟨f, h, s, c, .slice none 0 0, rfl, N.own_m each, hb'⟩

end Go.Proofs.Ytlkdlcpfcacigaa
