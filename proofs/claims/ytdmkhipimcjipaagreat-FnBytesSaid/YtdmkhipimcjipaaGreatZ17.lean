/- Parts of the proof of FnBytes. -/
import Derived.Test.YtdmkhipimcjipaaGreatZ16
import Derived.Test.YtdmkhipimcjipaaGreatZ14
import Derived.IntWalk
import Derived.Test.YtdmkhipimcjipaaGreatZ13
import Derived.Laws.BytesArg
import Derived.Test.YtdmkhipimcjipaaGreatZ15
set_option linter.unusedVariables false
set_option linter.unusedSimpArgs false
section
namespace Go.Proofs.YtdmkhipimcjipaaGreat
open Go.RowKit
set_option linter.unusedVariables false
set_option linter.unusedSimpArgs false
theorem drop_cons_getD {b : List Int} {p : Nat} {x : Int} {t : List Int} (h : b.drop p = x :: t) : p < b.length ∧ b.getD p 0 = x ∧ b.drop (p + 1) = t := by
  have hl : p < b.length := by
    by_cases hp : p < b.length
    · exact hp
    · rw [List.drop_eq_nil_of_le (by omega)] at h; cases h
  rw [List.drop_eq_getElem_cons hl] at h
  injection h with h1 h2
  exact ⟨hl, by rw [List.getD_eq_getElem?_getD, List.getElem?_eq_getElem hl]; exact h1, h2⟩
theorem put_sum (n P : Int) (a c m : Nat) (h : m = a + 128 * c) : n + (a : Int) * P + (c : Int) * (P * 128) = n + (m : Int) * P := by
  have h1 : (m : Int) = (a : Int) + 128 * (c : Int) := by omega
  have h2 : 128 * (c : Int) * P = (c : Int) * (P * 128) := by rw [Int.mul_comm 128 (c : Int), Int.mul_assoc, Int.mul_comm 128 P]
  rw [h1, Int.add_mul, h2, ← Int.add_assoc]
theorem getGo_put {b : List Int} {i : Nat} : ∀ (m f k : Nat) (n : Int) (C : List Int), b.drop (i + k) = putN m ++ C → (putN m).length ≤ f → (k = 0 ∨ m ≠ 0) → n + (m : Int) * 128 ^ k ≤ 2147483647 →
    getGo b i f k n = (n + (m : Int) * 128 ^ k, (i : Int) + k + ((putN m).length : Int), true) := by
  intro m
  induction m using Nat.strongRecOn with
  | _ m ih =>
    intro f k n C hd hf hk hn
    cases f with
    | zero =>
      exfalso
      by_cases hm : 127 < m
      · rw [putN_big hm] at hf; simp at hf
      · rw [putN_small hm] at hf; simp at hf
    | succ f =>
      by_cases hm : 127 < m
      · rw [putN_big hm] at hd hf ⊢
        obtain ⟨h1, h2, h3⟩ := drop_cons_getD hd
        have hl : (i : Int) + k < b.length := by omega
        have hs := put_sum n (128 ^ k) (m % 128) (m / 128) m (by omega)
        have hc : ((m % 128 + 128 : Nat) : Int) % 128 = ((m % 128 : Nat) : Int) := by omega
        rw [getGo_in hl (c := ((m % 128 + 128 : Nat) : Int)) (by simpa using h2) rfl, if_neg (by omega), hc]
        rw [ih (m / 128) (by omega) f (k + 1) _ C (by rw [show i + (k + 1) = i + k + 1 by omega]; exact h3) (by simp at hf; omega) (.inr (by omega)) (by rw [Int.pow_succ, hs]; exact hn), Int.pow_succ, hs, List.length_cons]
        congr 2
        omega
      · rw [putN_small hm] at hd hf ⊢
        obtain ⟨h1, h2, h3⟩ := drop_cons_getD hd
        have hl : (i : Int) + k < b.length := by omega
        have hc : (m : Int) % 128 = m := by omega
        rw [getGo_in hl (c := (m : Int)) (by simpa using h2) rfl, if_pos (by omega), hc, if_neg (by omega)]
        simp
theorem numAt_put {b : List Int} {i : Nat} {n : Int} {C : List Int} (h : b.drop i = putNum n ++ C) (hn : inB n 0 2147483647 = true) : getNum b i = (n, (i : Int) + ((putNum n).length : Int), true) ∧ numAt b i = some (n, (i : Int) + ((putNum n).length : Int)) := by
  have hb := inB_true.1 hn
  have e : putNum n = putN n.toNat := by unfold putNum; rw [if_pos hn]
  have h5 := putNum_len5 n
  have hp := putNum_pos n hn
  have hl : i < b.length := by
    by_cases hh : i < b.length
    · exact hh
    · rw [List.drop_eq_nil_of_le (by omega)] at h
      have := congrArg List.length h
      rw [List.length_append] at this
      simp at this
      omega
  rw [e] at h h5 ⊢
  have key := getGo_put (b := b) (i := i) n.toNat 5 0 0 C h h5 (.inl rfl) (by simp; omega)
  have hg : getNum b i = (n, (i : Int) + ((putN n.toNat).length : Int), true) := by
    unfold getNum
    rw [if_pos (inB_true.2 (by omega)), key]
    simp
    omega
  exact ⟨hg, by unfold numAt; rw [hg]; rfl⟩
def opPut (o : O3) : Prop := inB o.c 0 2147483647 = true ∧ inB (o.n + 1073741824) 0 2147483647 = true ∧ inB o.m 0 2147483647 = true
theorem drop_add_of {b A C : List Int} {i : Nat} (h : b.drop i = A ++ C) : b.drop (i + A.length) = C := by
  rw [← List.drop_drop, h, List.drop_left]
theorem opsGo_put {b : List Int} : ∀ (os : List O3) (i : Nat) (acc : List O3) (C : List Int), b.drop i = os.flatMap opBytes ++ C → (∀ o ∈ os, opPut o) → opsGo b os.length i acc = some (acc ++ os, (i : Int) + ((os.flatMap opBytes).length : Int)) := by
  intro os
  induction os with
  | nil => intro i acc C _ _; simp [opsGo]
  | cons o os ih =>
    intro i acc C h ho
    obtain ⟨p1, p2, p3⟩ := ho o (List.mem_cons_self ..)
    have h' : b.drop i = putNum o.c ++ (putNum (o.n + 1073741824) ++ (putNum o.m ++ (os.flatMap opBytes ++ C))) := by
      rw [h, List.flatMap_cons]; unfold opBytes; simp only [List.append_assoc]
    obtain ⟨_, n1⟩ := numAt_put h' p1
    have h2 := drop_add_of h'
    obtain ⟨_, n2⟩ := numAt_put h2 p2
    have h3 := drop_add_of h2
    obtain ⟨_, n3⟩ := numAt_put h3 p3
    have h4 := drop_add_of h3
    have key := ih _ (acc ++ [o]) C h4 (fun x hx => ho x (List.mem_cons_of_mem _ hx))
    rw [List.length_cons]
    unfold opsGo
    rw [n1]
    dsimp only
    rw [show (i : Int) + ((putNum o.c).length : Int) = ((i + (putNum o.c).length : Nat) : Int) by omega, n2]
    dsimp only
    rw [show ((i + (putNum o.c).length : Nat) : Int) + ((putNum (o.n + 1073741824)).length : Int) = ((i + (putNum o.c).length + (putNum (o.n + 1073741824)).length : Nat) : Int) by omega, n3]
    dsimp only
    rw [show ((i + (putNum o.c).length + (putNum (o.n + 1073741824)).length : Nat) : Int) + ((putNum o.m).length : Int) = ((i + (putNum o.c).length + (putNum (o.n + 1073741824)).length + (putNum o.m).length : Nat) : Int) by omega]
    rw [show (⟨o.c, o.n + 1073741824 - 1073741824, o.m⟩ : O3) = o by cases o; simp, key, List.flatMap_cons, List.length_append]
    have : (opBytes o).length = (putNum o.c).length + (putNum (o.n + 1073741824)).length + (putNum o.m).length := by unfold opBytes; simp only [List.length_append]; omega
    rw [this]
    simp
    omega
def fnPut (x : F2) : Prop := inB x.f 0 2147483647 = true ∧ inB (x.os.length : Int) 0 2147483647 = true ∧ ∀ o ∈ x.os, opPut o
theorem funAt_put {b : List Int} {x : F2} {i : Nat} {C : List Int} (h : b.drop i = fnBytes x ++ C) (hx : fnPut x) : funAt b i = some (x, (i : Int) + ((fnBytes x).length : Int)) := by
  obtain ⟨p1, p2, p3⟩ := hx
  have h' : b.drop i = putNum x.f ++ (putNum (x.os.length : Int) ++ (x.os.flatMap opBytes ++ C)) := by
    rw [h]; unfold fnBytes; simp only [List.append_assoc]
  obtain ⟨_, n1⟩ := numAt_put h' p1
  have h2 := drop_add_of h'
  obtain ⟨_, n2⟩ := numAt_put h2 p2
  have h3 := drop_add_of h2
  have key := opsGo_put x.os _ [] C h3 p3
  unfold funAt
  rw [n1]
  dsimp only
  rw [show (i : Int) + ((putNum x.f).length : Int) = ((i + (putNum x.f).length : Nat) : Int) by omega, n2]
  dsimp only
  rw [show ((i + (putNum x.f).length : Nat) : Int) + ((putNum (x.os.length : Int)).length : Int) = ((i + (putNum x.f).length + (putNum (x.os.length : Int)).length : Nat) : Int) by omega, Int.toNat_natCast, key]
  dsimp only
  have : (fnBytes x).length = (putNum x.f).length + (putNum (x.os.length : Int)).length + (x.os.flatMap opBytes).length := by unfold fnBytes; simp only [List.length_append]
  rw [this, List.nil_append]
  simp
  omega
theorem funsGo_put {b : List Int} : ∀ (fs : List F2) (i : Nat) (acc : List F2) (C : List Int), b.drop i = fs.flatMap fnBytes ++ C → (∀ x ∈ fs, fnPut x) → funsGo b fs.length i acc = some (acc ++ fs, (i : Int) + ((fs.flatMap fnBytes).length : Int)) := by
  intro fs
  induction fs with
  | nil => intro i acc C _ _; simp [funsGo]
  | cons x fs ih =>
    intro i acc C h hx
    have h' : b.drop i = fnBytes x ++ (fs.flatMap fnBytes ++ C) := by rw [h, List.flatMap_cons, List.append_assoc]
    have n1 := funAt_put h' (hx x (List.mem_cons_self ..))
    have key := ih _ (acc ++ [x]) C (drop_add_of h') (fun y hy => hx y (List.mem_cons_of_mem _ hy))
    rw [List.length_cons]
    unfold funsGo
    rw [n1]
    dsimp only
    rw [show (i : Int) + ((fnBytes x).length : Int) = ((i + (fnBytes x).length : Nat) : Int) by omega, key, List.flatMap_cons, List.length_append]
    simp
    omega
theorem funsOk_put {fs : List F2} (h : funsOk fs = true) : inB (fs.length : Int) 0 2147483647 = true ∧ ∀ x ∈ fs, fnPut x := by
  obtain ⟨h1, h2, h3⟩ := funsOk_parts h
  refine ⟨inB_true.2 (by omega), fun x hx => ?_⟩
  obtain ⟨i, hi, rfl⟩ := List.mem_iff_getElem.1 hx
  have hh := h2 _ hx
  refine ⟨inB_true.2 (by omega), inB_true.2 (by omega), fun o ho => ?_⟩
  obtain ⟨a1, a2, a3⟩ := opOk_n h2 h1.2 hi (h3 i hi o ho)
  exact ⟨inB_true.2 (by omega), inB_true.2 (by omega), inB_true.2 (by omega)⟩
theorem funsOf_bytes {fs : List F2} (h : funsOk fs = true) : funsOf (funsBytes fs) = some fs := by
  obtain ⟨h1, h2⟩ := funsOk_put h
  have e : funsBytes fs = funsRaw fs := by unfold funsBytes; rw [if_pos h]
  rw [e]
  have hd : (funsRaw fs).drop 0 = putNum (fs.length : Int) ++ (fs.flatMap fnBytes ++ []) := by unfold funsRaw; simp
  obtain ⟨_, n1⟩ := numAt_put hd h1
  have key := funsGo_put fs _ [] [] (drop_add_of hd) h2
  have hp : parseF (funsRaw fs) = some (fs, ((funsRaw fs).length : Int)) := by
    unfold parseF
    rw [show ((0 : Int)) = ((0 : Nat) : Int) from rfl, n1]
    dsimp only
    rw [show ((0 : Nat) : Int) + ((putNum (fs.length : Int)).length : Int) = ((0 + (putNum (fs.length : Int)).length : Nat) : Int) by omega, Int.toNat_natCast, key, List.nil_append]
    unfold funsRaw
    rw [List.length_append]
    congr 2
    omega
  unfold funsOf
  rw [hp]
  dsimp only
  rw [if_pos ⟨rfl, h⟩]
theorem bytes_funsOf {b : List Int} (hb : bytesOk b) {fs : List F2} (h : funsOf b = some fs) : funsBytes fs = b := by
  cases hp : parseF b with
  | none => rw [funsOf_none hp] at h; cases h
  | some r =>
    obtain ⟨gs, j⟩ := r
    rw [funsOf_of hb hp] at h
    split at h
    · rename_i hc
      cases h
      exact hc.1
    · cases h
theorem funsBytes_pos (fs : List F2) : 0 < (funsBytes fs).length ↔ funsOk fs = true := by
  unfold funsBytes
  cases hok : funsOk fs
  · simp
  · have := (funsOk_put hok).1
    have := putNum_pos _ this
    simp only [if_true]
    unfold funsRaw
    rw [List.length_append]
    constructor
    · intro _; trivial
    · intro _; omega
end Go.Proofs.YtdmkhipimcjipaaGreat
end
section
namespace Go.Proofs.YtdmkhipimcjipaaGreat
open Go.RowKit
set_option linter.unusedVariables false
set_option linter.unusedSimpArgs false
def NumPost (g : Nat) (w : World) (bv : Value) (b : List Int) (i : Int) (ok : Bool) (e : Ending) (w' : World) : Prop :=
  ∃ (n i' : Int) (ok' : Bool), e = .returned (.int .i64 n) ∧ NumRel b i ok n i' ok' ∧ Bx w' g #[bv, .int .i64 i', .bool ok'] ∧ w.grownBy w' (some g) ∧ w'.heap.size = w.heap.size
theorem num_made {w : World} {nq g : Nat} {bv : Value} {b : List Int} {i n i' : Int} {ok ok' : Bool} {e : Ending} {j : Nat} {u : Value} (he : e = .returned (.int .i64 n)) (hk : Bx w g #[bv, .int .i64 i, .bool ok]) (hr : NumRel b i ok n i' ok')
    (hj : j < 3) (hs : (#[bv, .int .i64 i, .bool ok] : Array Value).setIfInBounds j u = #[bv, .int .i64 i', .bool ok']) :
    NumPost g w bv b i ok e ((w.drewN nq).setCell ⟨g, j, none⟩ u) := by
  have h1 : Bx (w.drewN nq) g #[bv, .int .i64 i, .bool ok] := hk.below (below_drewN (Below.refl w.heap.size w) nq) hk.1
  refine ⟨n, i', ok', he, hr, ?_, ?_, by simp⟩
  · rw [← hs]
    exact h1.put j (by simpa using hj) u
  · exact (World.grownBy.trans' (b := w.drewN nq) ⟨rfl, rfl, rfl, Nat.le_refl _, fun _ _ _ => rfl⟩ (grownBy.setCell _ g j u))
theorem getNum_cases {b : List Int} (hb : bytesOk b) (i : Int) : (∃ n j, getNum b i = (n, j, true) ∧ numAt b i = some (n, j)) ∨ (∃ n j, getNum b i = (n, j, false) ∧ numAt b i = none) := by
  obtain ⟨r, hr⟩ : ∃ r, getNum b i = r := ⟨_, rfl⟩
  obtain ⟨n, j, k⟩ := r
  cases k
  · exact .inr ⟨n, j, hr, by unfold numAt; rw [hr]; rfl⟩
  · exact .inl ⟨n, j, hr, by unfold numAt; rw [hr]; rfl⟩
set_option maxHeartbeats 800000 in
set_option maxRecDepth 100000 in
theorem iNum_any {B : Nat} (g : Nat) (bv : Value) (b : List Int) (i : Int) (ok : Bool) (w : World) (hk : Bx w g #[bv, .int .i64 i, .bool ok]) (hr : Rd B .u8 w bv b) (hb : bytesOk b) (h0 : 0 ≤ i) (h1 : i ≤ b.length) (hn : b.length ≤ 4294967296) :
    Calls Tryz.prog 28 #[.pointer (some ⟨g, 0, none⟩)] w (NumPost g w bv b i ok) := by
  have hg := fun (m : Nat) => (iGetNum_any bv b i (w.drewN m) (hr.below (below_drewN (Below.refl B w) m) (Nat.le_refl _)) hb (by omega) (by omega) hn).mono (fun e w' h => (⟨h.1, h.2⟩ : e = .returned (trip (getNum b i)) ∧ ∃ m', w' = (w.drewN m).drewN m'))
  have ck := hk.2.1
  have zk := hk.2.2
  have yk := hk.1
  have HK := Lib.hid hk
  obtain ⟨ba, bc, rfl⟩ := hr.form
  rcases getNum_cases hb i with ⟨n, j, e1, e2⟩ | ⟨n, j, e1, e2⟩
  · rw [e1] at hg
    unfold trip at hg
    dsimp only at hg
    have HG := Lib.hid hg
    have hbd := numAt_bound hb e2
    have HN := Lib.hid e2
    clear hg e1 e2 hk hr hb hn
    go_enter Tryz.func28, Tryz.ntmps28
    go_wp2_with fail
    go_quiet ((go_at_call 7; exact Calls.quiet_of (HG.out _)))
    go_wp2
    go_ret
    exact num_made rfl HK.out ⟨fun h => ⟨h, HN.out⟩, fun h => .inl h, by omega, by omega, by omega, by omega⟩ (by decide) rfl
  · rw [e1] at hg
    unfold trip at hg
    dsimp only at hg
    have HG := Lib.hid hg
    have HN := Lib.hid e2
    clear hg e1 e2 hk hr hb hn
    go_enter Tryz.func28, Tryz.ntmps28
    go_wp2_with fail
    go_quiet ((go_at_call 7; exact Calls.quiet_of (HG.out _)))
    go_wp2
    go_ret
    exact num_made rfl HK.out ⟨(fun h => by cases h), fun _ => .inr HN.out, Int.le_refl _, h1, by omega, by omega⟩ (by decide) rfl
set_option maxHeartbeats 800000 in
set_option maxRecDepth 100000 in
theorem sNum_any {B : Nat} (g : Nat) (bv : Value) (b : List Int) (i : Int) (ok : Bool) (w : World) (hk : Bx w g #[bv, .int .i64 i, .bool ok]) (hr : Rd B .u8 w bv b) (hb : bytesOk b) (h0 : 0 ≤ i) (h1 : i ≤ b.length) (hn : b.length ≤ 4294967296) :
    Calls Tryz.prog 32 #[.pointer (some ⟨g, 0, none⟩)] w (NumPost g w bv b i ok) := by
  have hg := fun (m : Nat) => (sGetNum_any bv b i (w.drewN m) (hr.below (below_drewN (Below.refl B w) m) (Nat.le_refl _)) hb (by omega) (by omega) hn).mono (fun e w' h => (⟨h.1, h.2⟩ : e = .returned (trip (getNum b i)) ∧ ∃ m', w' = (w.drewN m).drewN m'))
  have ck := hk.2.1
  have zk := hk.2.2
  have yk := hk.1
  have HK := Lib.hid hk
  obtain ⟨ba, bc, rfl⟩ := hr.form
  rcases getNum_cases hb i with ⟨n, j, e1, e2⟩ | ⟨n, j, e1, e2⟩
  · rw [e1] at hg
    unfold trip at hg
    dsimp only at hg
    have HG := Lib.hid hg
    have hbd := numAt_bound hb e2
    have HN := Lib.hid e2
    clear hg e1 e2 hk hr hb hn
    cases ok
    · go_enter Tryz.func32, Tryz.ntmps32
      go_wp2_with fail
      go_quiet ((go_at_call 10; exact Calls.quiet_of (HG.out _)))
      go_wp2
      go_ret
      exact num_made rfl HK.out ⟨(fun h => by cases h), fun _ => .inl rfl, Int.le_refl _, h1, by omega, by omega⟩ (by decide) rfl
    · go_enter Tryz.func32, Tryz.ntmps32
      go_wp2_with fail
      go_quiet ((go_at_call 10; exact Calls.quiet_of (HG.out _)))
      go_wp2
      go_ret
      exact num_made rfl HK.out ⟨fun h => ⟨rfl, HN.out⟩, fun h => (by cases h), by omega, by omega, by omega, by omega⟩ (by decide) rfl
  · rw [e1] at hg
    unfold trip at hg
    dsimp only at hg
    have HG := Lib.hid hg
    have HN := Lib.hid e2
    clear hg e1 e2 hk hr hb hn
    go_enter Tryz.func32, Tryz.ntmps32
    go_wp2_with fail
    go_quiet ((go_at_call 10; exact Calls.quiet_of (HG.out _)))
    go_wp2
    go_ret
    exact num_made rfl HK.out ⟨(fun h => by cases h), fun _ => .inr HN.out, Int.le_refl _, h1, by omega, by omega⟩ (by decide) rfl
end Go.Proofs.YtdmkhipimcjipaaGreat
end
section
namespace Go.Proofs.YtdmkhipimcjipaaGreat
open Go.RowKit
set_option linter.unusedVariables false
set_option linter.unusedSimpArgs false
theorem grownBy.new {w W W' : World} {g : Nat} {row : Option Nat} (h : w.grownBy W (some g)) (k : W.grownBy W' row) (hr : ∀ q, row = some q → w.heap.size ≤ q) : w.grownBy W' (some g) :=
  ⟨k.os.trans h.os, k.tape.trans h.tape, k.output.trans h.output, Nat.le_trans h.size k.size, fun i hi hne => (k.block i (Nat.lt_of_lt_of_le hi h.size) (fun e => by have := hr i e.symm; omega)).trans (h.block i hi hne)⟩
theorem Rd.kept {B g : Nat} {k : IntKind} {w W : World} {v : Value} {zs : List Int} (h : Rd B k w v zs) (hg : w.grownBy W (some g)) (hB : B ≤ g) : Rd B k W v zs := by
  rcases h with h | ⟨b, off, cap, h1, h2, h3, h4, h5⟩
  · exact .inl h
  · exact .inr ⟨b, off, cap, h1, h2, Nat.lt_of_lt_of_le h3 hg.size, h4, fun j hj => (World.cell?_of_block (hg.block b h3 (fun e => by injection e with e; omega))).trans (h5 j hj)⟩
structure FunRel (b : List Int) (i : Int) (x : F2) (i' : Int) (ok' : Bool) : Prop where
  yes : ok' = true → funAt b i = some (x, i')
  no : ok' = false → funAt b i = none
  le : i ≤ i'
  len : i' ≤ b.length
  fin : fnIn x
  many : x.os.length ≤ b.length + 1
structure FunInv (b : List Int) (i0 f : Int) (c k : Nat) (i : Int) (ok : Bool) (acc : List O3) : Prop where
  yes : ok = true → (acc.length : Int) ≤ i ∧ funAt b i0 = (opsGo b (c - k) i acc).map (fun r => (⟨f, r.1⟩, r.2))
  no : ok = false → funAt b i0 = none
  le : i0 ≤ i
  len : i ≤ b.length
  many : acc.length ≤ b.length + 1
  fin : ∀ o ∈ acc, o3In o
theorem funAt_eq (b : List Int) (i : Int) : funAt b i = match numAt b i with
  | none => none
  | some (f, i1) => match numAt b i1 with
    | none => none
    | some (m, i2) => (opsGo b m.toNat i2 []).map (fun r => (⟨f, r.1⟩, r.2)) := by
  unfold funAt
  cases numAt b i with
  | none => rfl
  | some r =>
    obtain ⟨f, i1⟩ := r
    dsimp only
    cases numAt b i1 with
    | none => rfl
    | some r =>
      obtain ⟨m, i2⟩ := r
      dsimp only
      cases opsGo b m.toNat i2 [] <;> rfl
theorem FunInv.start {b : List Int} {i0 f i1 i2 : Int} {c : Nat} {ok1 ok2 : Bool} (h1 : NumRel b i0 true f i1 ok1) (h2 : NumRel b i1 ok1 (c : Int) i2 ok2) (h0 : 0 ≤ i0) : FunInv b i0 f c 0 i2 ok2 [] := by
  refine ⟨fun h => ?_, fun h => ?_, Int.le_trans h1.le h2.le, h2.len, by simp, fun o ho => by simp at ho⟩
  · obtain ⟨a, e2⟩ := h2.yes h
    obtain ⟨_, e1⟩ := h1.yes a
    have := h1.le
    have := h2.le
    refine ⟨by simp; omega, ?_⟩
    rw [funAt_eq, e1]
    dsimp only
    rw [e2]
    simp
  · rw [funAt_eq]
    rcases h2.no h with a | e2
    · rcases h1.no a with a | e1
      · cases a
      · rw [e1]
    · cases hh : ok1
      · rcases h1.no hh with a | e1
        · cases a
        · rw [e1]
      · rw [(h1.yes hh).2]
        dsimp only
        rw [e2]
theorem FunInv.step {b : List Int} {i0 f i i1 i2 i3 x y z : Int} {c k : Nat} {ok1 ok2 ok3 : Bool} {acc : List O3} (h : FunInv b i0 f c k i true acc) (hk : k < c) (hb : bytesOk b)
    (h1 : NumRel b i true x i1 ok1) (h2 : NumRel b i1 ok1 y i2 ok2) (h3 : NumRel b i2 ok2 z i3 ok3) : FunInv b i0 f c (k + 1) i3 ok3 (acc ++ [⟨x, y - 1073741824, z⟩]) := by
  obtain ⟨g1, g2⟩ := h.yes rfl
  have l1 := h.len
  have hs : c - k = (c - (k + 1)) + 1 := by omega
  refine ⟨fun e => ?_, fun e => ?_, by have := h.le; have := h1.le; have := h2.le; have := h3.le; omega, h3.len, by simp; omega, fun o ho => ?_⟩
  · obtain ⟨a3, e3⟩ := h3.yes e
    obtain ⟨a2, e2⟩ := h2.yes a3
    obtain ⟨_, e1⟩ := h1.yes a2
    have n1 := numAt_bound hb e1
    have n2 := numAt_bound hb e2
    have n3 := numAt_bound hb e3
    refine ⟨by simp; omega, ?_⟩
    rw [g2, hs]
    conv => lhs; unfold opsGo
    rw [e1]
    dsimp only
    rw [e2]
    dsimp only
    rw [e3]
  · rw [g2, hs]
    have key : opsGo b (c - (k + 1) + 1) i acc = none := by
      unfold opsGo
      cases e1 : numAt b i with
      | none => rfl
      | some r1 =>
        obtain ⟨x', j1⟩ := r1
        dsimp only
        have a1 : ok1 = true := by
          cases hh : ok1
          · rcases h1.no hh with a | a
            · cases a
            · rw [e1] at a; cases a
          · rfl
        obtain ⟨_, a⟩ := h1.yes a1
        rw [e1] at a
        simp only [Option.some.injEq, Prod.mk.injEq] at a
        obtain ⟨rfl, rfl⟩ := a
        cases e2 : numAt b j1 with
        | none => rfl
        | some r2 =>
          obtain ⟨y', j2⟩ := r2
          dsimp only
          have a2 : ok2 = true := by
            cases hh : ok2
            · rcases h2.no hh with a | a
              · rw [a1] at a; cases a
              · rw [e2] at a; cases a
            · rfl
          obtain ⟨_, a⟩ := h2.yes a2
          rw [e2] at a
          simp only [Option.some.injEq, Prod.mk.injEq] at a
          obtain ⟨rfl, rfl⟩ := a
          rcases h3.no e with a | a
          · rw [a2] at a; cases a
          · rw [a]
    rw [key]
    rfl
  · rcases List.mem_append.1 ho with ho | ho
    · exact h.fin o ho
    · rw [List.mem_singleton] at ho
      subst ho
      have := h1.lo; have := h1.hi; have := h2.lo; have := h2.hi; have := h3.lo; have := h3.hi
      exact ⟨⟨by dsimp only; omega, by dsimp only; omega⟩, ⟨by dsimp only; omega, by dsimp only; omega⟩, by dsimp only; omega, by dsimp only; omega⟩
theorem FunInv.done {b : List Int} {i0 f i : Int} {c k : Nat} {ok : Bool} {acc : List O3} (h : FunInv b i0 f c k i ok acc) (hk : ok = true → c ≤ k) (hf : 0 ≤ f ∧ f ≤ 2147483647) : FunRel b i0 ⟨f, acc⟩ i ok := by
  refine ⟨fun e => ?_, h.no, h.le, h.len, ⟨⟨by dsimp only; omega, by dsimp only; omega⟩, h.fin⟩, h.many⟩
  have := (h.yes e).2
  rw [show c - k = 0 by have := hk e; omega] at this
  simpa [opsGo] using this
def FunPost (g : Nat) (w : World) (bv : Value) (b : List Int) (i : Int) (e : Ending) (w' : World) : Prop :=
  ∃ (x : F2) (v : Value) (i' : Int) (ok' : Bool), e = .returned (.agg #[.int .i64 x.f, v]) ∧ FunRel b i x i' ok' ∧ w'.ownsRow w.heap.size 50 3 v x.os.length (flat O3.enc x.os) ∧ Bx w' g #[bv, .int .i64 i', .bool ok'] ∧ w.grownBy w' (some g)
theorem own_off {v : Value} {g : Nat} (h : ∀ q, v.ownBlock = some q → q ≠ g) : v.ownBlock = none ∨ v.ownBlock ≠ some g := .inr (fun hh => h _ hh rfl)
theorem own_ne {base g : Nat} {e : TypeId} {sz n : Nat} {w : World} {v : Value} {xs : List Value} (h : w.ownsRow base e sz v n xs) (hg : g < base) : v.ownBlock = none ∨ v.ownBlock ≠ some g := by
  cases hq : v.ownBlock with
  | none => exact .inl rfl
  | some k => exact .inr (fun hh => by have := (h.lt k hq).1; injection hh with hh; omega)
set_option maxHeartbeats 3200000 in
set_option maxRecDepth 100000 in
theorem iFun_any {B : Nat} (g : Nat) (bv : Value) (b : List Int) (i0 : Int) (w : World) (hk : Bx w g #[bv, .int .i64 i0, .bool true]) (hr : Rd B .u8 w bv b) (hBg : B ≤ g) (hb : bytesOk b) (h0 : 0 ≤ i0) (h1 : i0 ≤ b.length) (hn : b.length ≤ 1048576) :
    Calls Tryz.prog 29 #[.pointer (some ⟨g, 0, none⟩)] w (FunPost g w bv b i0) := by
  obtain ⟨ti, hi, hz0, hz1, hz2⟩ := info_parts Tryz.infoOp
  have HN := Lib.hid (fun (W : World) (i : Int) (ok : Bool) (hx : Bx W g #[bv, .int .i64 i, .bool ok]) (gr : w.grownBy W (some g)) (h0 : 0 ≤ i) (h1 : i ≤ b.length) => iNum_any g bv b i ok W hx (hr.kept gr hBg) hb h0 h1 (by omega))
  have HB := Lib.hid hb
  have yg := hk.1
  have HK := Lib.hid hk
  clear hr hb hk
  go_enter Tryz.func29, Tryz.ntmps29
  go_wp2_with fail
  generalize hx : (w.alloc _).alloc _ = x
  obtain ⟨bb, kr, kf, sx⟩ := alloc_two hx
  clear hx
  have own : x.ownsRow (w.heap.size + 2) 50 3 (.slice none 0 0) 0 (flat O3.enc []) := World.ownsRow_nil _ _ _ _
  have hx := HK.out.below bb yg
  have gr : w.grownBy x (some g) := ⟨bb.os, bb.tape, bb.output, bb.size, fun i hi _ => bb.block i hi⟩
  have hxs : w.heap.size + 2 ≤ x.heap.size := Nat.le_of_eq sx.symm
  clear bb sx HK
  refine (HN.out _ _ _ hx gr (by omega) (by omega)).mono ?_
  rintro e w1 ⟨n1, i1, ok1, rfl, r1, hx2, g2, s2⟩
  replace kr := kr.grown g2 (fun h => by have := Option.some.inj h; omega)
  replace kf := kf.grown g2 (fun h => by have := Option.some.inj h; omega)
  replace own := own.kept g2 (own_ne own (by omega))
  replace gr := grownBy.trans gr g2
  replace hx := hx2
  replace hxs := Nat.le_trans hxs g2.size
  have t1 := r1.le
  have u1 := r1.len
  have a1 := r1.lo
  have c1 := r1.hi
  clear g2 hx2 s2
  have ckf := kf.2.1
  have ykf := kf.1
  have zkf := kf.2.2
  go_wp2_with fail
  clear ckf ykf zkf
  have gs := grownBy.setCell w1 (w.heap.size + 1) 0 (.int .i64 n1)
  replace hx := hx.grown gs (fun h => by have := Option.some.inj h; omega)
  replace kr := kr.grown gs (fun h => by have := Option.some.inj h; omega)
  replace kf : Bx _ (w.heap.size + 1) #[.int .i64 n1, .slice none 0 0] := kf.put 0 (by simp) (.int .i64 n1)
  replace own := own.kept gs (own_ne own (by omega))
  replace gr := grownBy.new gr gs (fun q hq => by have := Option.some.inj hq; omega)
  replace hxs := Nat.le_trans hxs gs.size
  clear gs
  generalize w1.setCell ⟨w.heap.size + 1, 0, none⟩ (.int .i64 n1) = x1 at *
  refine (HN.out _ _ _ hx gr (by omega) (by omega)).mono ?_
  rintro e w2 ⟨n2, i2, ok2, rfl, r2, hx2, g2, s2⟩
  replace kr := kr.grown g2 (fun h => by have := Option.some.inj h; omega)
  replace kf := kf.grown g2 (fun h => by have := Option.some.inj h; omega)
  replace own := own.kept g2 (own_ne own (by omega))
  replace gr := grownBy.trans gr g2
  replace hx := hx2
  replace hxs := Nat.le_trans hxs g2.size
  have t2 := r2.le
  have u2 := r2.len
  have a2 := r2.lo
  have c2 := r2.hi
  clear g2 hx2 s2
  obtain ⟨c, rfl⟩ : ∃ c : Nat, n2 = (c : Int) := ⟨n2.toNat, by omega⟩
  have HI := FunInv.start r1 r2 h0
  have HR1 := Lib.hid r1
  clear r1 r2
  go_wp2
  go_loopw [5] (fun s wr => ∃ (k : Nat) (acc : List O3) (i : Int) (ok : Bool) (v : Value), k ≤ c ∧ s = .int .i64 k ∧ Hid (FunInv b i0 n1 c k i ok acc) ∧ Bx wr g #[bv, .int .i64 i, .bool ok] ∧ w.grownBy wr (some g) ∧ Bx wr w.heap.size #[.int .i64 0, .slice none 0 0] ∧ Bx wr (w.heap.size + 1) #[.int .i64 n1, v] ∧ wr.ownsRow (w.heap.size + 2) 50 3 v acc.length (flat O3.enc acc) ∧ w.heap.size + 2 ≤ wr.heap.size) (fun s _ => c - (intOf s).toNat)
  case atStart => exact ⟨0, [], i2, ok2, _, Nat.zero_le _, rfl, Lib.hid HI, hx, gr, kr, kf, own, hxs⟩
  case round =>
    clear HI hx gr kr kf own hxs t1 u1 t2 u2 a2
    obtain ⟨k, acc, i, ok, v, hk, rfl, HI, hx, gr, kr, kf, own, hxs⟩ := hrel
    have l1 := HI.out.le
    have l2 := HI.out.len
    have l3 := HI.out.many
    obtain ⟨va, vc, rfl⟩ := own_form own
    by_cases hgo : ok = true ∧ k < c
    · obtain ⟨rfl, hlt⟩ := hgo
      have hki : (k : Int) < (c : Int) := by omega
      have chx := hx.2.1
      have yhx := hx.1
      have zhx := hx.2.2
      go_wp2_with fail
      clear chx yhx zhx
      have hol := own_lt own
      generalize hz : wr.alloc _ = z
      obtain ⟨bz, ko⟩ := Bx.alloc hz
      clear hz
      replace hx := hx.below bz hx.1
      replace kr := kr.below bz kr.1
      replace kf := kf.below bz kf.1
      replace own := own_below own bz hol
      have hne : ∀ q, (Value.slice va acc.length vc).ownBlock = some q → q ≠ wr.heap.size := fun q hq => Nat.ne_of_lt (hol q hq)
      replace gr : w.grownBy z (some g) := grownBy.trans gr ⟨bz.os, bz.tape, bz.output, bz.size, fun i hi _ => bz.block i hi⟩
      obtain ⟨O, hO⟩ : ∃ O, wr.heap.size = O := ⟨_, rfl⟩
      rw [hO] at ko hne
      have hOs : w.heap.size + 2 ≤ O := by omega
      replace hxs := Nat.le_trans hxs bz.size
      subst hO
      clear bz hol
      refine (HN.out _ _ _ hx gr (by omega) (by omega)).mono ?_
      rintro e w3 ⟨n3, i3, ok3, rfl, r3, hx2, g2, s2⟩
      replace kr := kr.grown g2 (fun h => by have := Option.some.inj h; omega)
      replace kf := kf.grown g2 (fun h => by have := Option.some.inj h; omega)
      replace ko := ko.grown g2 (fun h => by have := Option.some.inj h; omega)
      replace own := own.kept g2 (own_ne own (by omega))
      replace gr := grownBy.trans gr g2
      replace hx := hx2
      replace hxs := Nat.le_trans hxs g2.size
      have t3 := r3.le
      have u3 := r3.len
      have a3 := r3.lo
      have c3 := r3.hi
      clear g2 hx2 s2
      have cko := ko.2.1
      have yko := ko.1
      have zko := ko.2.2
      go_wp2_with fail
      clear cko yko zko
      have gs := grownBy.setCell w3 (wr.heap.size) 0 (.int .i64 n3)
      replace hx := hx.grown gs (fun h => by have := Option.some.inj h; omega)
      replace kr := kr.grown gs (fun h => by have := Option.some.inj h; omega)
      replace kf := kf.grown gs (fun h => by have := Option.some.inj h; omega)
      replace ko : Bx _ (wr.heap.size) #[.int .i64 n3, .int .i64 0, .int .i64 0] := ko.put 0 (by simp) (.int .i64 n3)
      replace own := own.kept gs (own_off hne)
      replace gr := grownBy.new gr gs (fun q hq => by have := Option.some.inj hq; omega)
      replace hxs := Nat.le_trans hxs gs.size
      clear gs
      generalize w3.setCell ⟨wr.heap.size, 0, none⟩ (.int .i64 n3) = x3 at *
      refine (HN.out _ _ _ hx gr (by omega) (by omega)).mono ?_
      rintro e w4 ⟨n4, i4, ok4, rfl, r4, hx2, g2, s2⟩
      replace kr := kr.grown g2 (fun h => by have := Option.some.inj h; omega)
      replace kf := kf.grown g2 (fun h => by have := Option.some.inj h; omega)
      replace ko := ko.grown g2 (fun h => by have := Option.some.inj h; omega)
      replace own := own.kept g2 (own_ne own (by omega))
      replace gr := grownBy.trans gr g2
      replace hx := hx2
      replace hxs := Nat.le_trans hxs g2.size
      have t4 := r4.le
      have u4 := r4.len
      have a4 := r4.lo
      have c4 := r4.hi
      clear g2 hx2 s2
      have cko := ko.2.1
      have yko := ko.1
      have zko := ko.2.2
      have e9 : IntKind.i64.wrap (n4 - 1073741824) = n4 - 1073741824 := IntWalk.i64_in _ (by omega)
      go_wp2_with fail
      clear cko yko zko
      have gs := grownBy.setCell w4 (wr.heap.size) 1 (.int .i64 (n4 - 1073741824))
      replace hx := hx.grown gs (fun h => by have := Option.some.inj h; omega)
      replace kr := kr.grown gs (fun h => by have := Option.some.inj h; omega)
      replace kf := kf.grown gs (fun h => by have := Option.some.inj h; omega)
      replace ko : Bx _ (wr.heap.size) #[.int .i64 n3, .int .i64 (n4 - 1073741824), .int .i64 0] := ko.put 1 (by simp) (.int .i64 (n4 - 1073741824))
      replace own := own.kept gs (own_off hne)
      replace gr := grownBy.new gr gs (fun q hq => by have := Option.some.inj hq; omega)
      replace hxs := Nat.le_trans hxs gs.size
      clear gs
      generalize w4.setCell ⟨wr.heap.size, 1, none⟩ (.int .i64 (n4 - 1073741824)) = x4 at *
      refine (HN.out _ _ _ hx gr (by omega) (by omega)).mono ?_
      rintro e w5 ⟨n5, i5, ok5, rfl, r5, hx2, g2, s2⟩
      replace kr := kr.grown g2 (fun h => by have := Option.some.inj h; omega)
      replace kf := kf.grown g2 (fun h => by have := Option.some.inj h; omega)
      replace ko := ko.grown g2 (fun h => by have := Option.some.inj h; omega)
      replace own := own.kept g2 (own_ne own (by omega))
      replace gr := grownBy.trans gr g2
      replace hx := hx2
      replace hxs := Nat.le_trans hxs g2.size
      have t5 := r5.le
      have u5 := r5.len
      have a5 := r5.lo
      have c5 := r5.hi
      clear g2 hx2 s2
      have HS := Lib.hid (FunInv.step HI.out hlt HB.out r3 r4 r5)
      clear HI r3 r4 r5
      have cko := ko.2.1
      have yko := ko.1
      have zko := ko.2.2
      have ckf := kf.2.1
      have ykf := kf.1
      have zkf := kf.2.2
      go_wp2_with (at_builtin; refine wpList_app1 rfl _ _ 46 rfl (w.heap.size + 2) 50 ti (.agg #[.int .i64 0, .int .i64 0, .int .i64 0]) 3 24 Tryz.underlying46 hi hz0 hz1 hz2 rfl (by decide) _ _ _ (by rfl) (own.kept (grownBy.setCell w5 (wr.heap.size) 2 (.int .i64 n5)) (own_off hne)) #[.int .i64 n3, .int .i64 (n4 - 1073741824), .int .i64 n5] rfl (by simp [Value.oneCell']) (by simp only [World.size_setCell]; rfl) (by unfold maxLen; omega) (by omega) (by simp only [World.size_setCell]; omega) ?_)
      intro v9 w9 own9 g9 nn
      clear cko yko zko ckf ykf zkf
      have gs := grownBy.setCell w5 (wr.heap.size) 2 (.int .i64 n5)
      replace hx := hx.grown gs (fun h => by have := Option.some.inj h; omega)
      replace kr := kr.grown gs (fun h => by have := Option.some.inj h; omega)
      replace kf := kf.grown gs (fun h => by have := Option.some.inj h; omega)
      replace ko : Bx _ (wr.heap.size) #[.int .i64 n3, .int .i64 (n4 - 1073741824), .int .i64 n5] := ko.put 2 (by simp) (.int .i64 n5)
      replace own := own.kept gs (own_off hne)
      replace gr := grownBy.new gr gs (fun q hq => by have := Option.some.inj hq; omega)
      replace hxs := Nat.le_trans hxs gs.size
      clear gs
      generalize w5.setCell ⟨wr.heap.size, 2, none⟩ (.int .i64 n5) = x5 at *
      obtain ⟨acc2, ha2, hl2⟩ : ∃ l, l = acc ++ [(⟨n3, n4 - 1073741824, n5⟩ : O3)] ∧ l.length = acc.length + 1 := ⟨_, rfl, by simp⟩
      replace own9 : w9.ownsRow (w.heap.size + 2) 50 3 v9 acc2.length (flat O3.enc acc2) := by rw [hl2, ha2, flat_snoc]; exact own9
      rw [← ha2] at HS
      clear ha2 hl2
      replace hx := hx.grown g9 (fun h => by have := (own.lt _ h.symm).1; omega)
      replace kr := kr.grown g9 (fun h => by have := (own.lt _ h.symm).1; omega)
      replace kf := kf.grown g9 (fun h => by have := (own.lt _ h.symm).1; omega)
      replace gr := grownBy.new gr g9 (fun q hq => by have := (own.lt q hq).1; omega)
      replace hxs := Nat.le_trans hxs g9.size
      clear g9 nn own ko hne
      have own := own9
      clear own9
      obtain ⟨va9, vc9, rfl⟩ := own_form own
      have ckf := kf.2.1
      have ykf := kf.1
      have zkf := kf.2.2
      go_wp2
      clear ckf ykf zkf
      have gs := grownBy.setCell w9 (w.heap.size + 1) 1 (.slice va9 acc2.length vc9)
      go_roundw
      case rel => exact ⟨k + 1, acc2, i5, ok5, _, hlt, by go_num, HS, hx.grown gs (fun h => by have := Option.some.inj h; omega), grownBy.new gr gs (fun q hq => by have := Option.some.inj hq; omega), kr.grown gs (fun h => by have := Option.some.inj h; omega), kf.put 1 (by simp) _, own.kept gs (own_ne own (by omega)), Nat.le_trans hxs gs.size⟩
      case measure => simp [intOf]; omega
    · by_cases hlt : k < c
      · have hki : (k : Int) < (c : Int) := by omega
        obtain rfl : ok = false := by cases ok; rfl; exact absurd ⟨rfl, hlt⟩ hgo
        have HD := Lib.hid (FunInv.done HI.out (fun h => by cases h) ⟨a1, c1⟩)
        clear HI
        have ckr := kr.2.1
        have ykr := kr.1
        have zkr := kr.2.2
        have ckf := kf.2.1
        have ykf := kf.1
        have zkf := kf.2.2
        have chx := hx.2.1
        have yhx := hx.1
        have zhx := hx.2.2
        go_wp2
        have gs := grownBy.trans (grownBy.setCell wr w.heap.size 0 (.int .i64 n1)) (grownBy.setCell (wr.setCell ⟨w.heap.size, 0, none⟩ (.int .i64 n1)) w.heap.size 1 (.slice va acc.length vc))
        refine bodyPost_ret (v := .agg #[.int .i64 n1, .slice va acc.length vc]) ?_ rfl ?_
        · have k2 : Bx _ w.heap.size #[.int .i64 n1, .slice va acc.length vc] := (kr.put 0 (by simp) (.int .i64 n1)).put 1 (by simp) (.slice va acc.length vc)
          have c9 := k2.2.1
          simp [results, Tryz.results29, go_sem, c9]
        · exact ⟨⟨n1, acc⟩, _, i, _, rfl, HD.out, own_base (own.kept gs (own_ne own (by omega))) (by omega), hx.grown gs (fun h => by have := Option.some.inj h; omega), grownBy.new gr gs (fun q hq => by have := Option.some.inj hq; omega)⟩
      · have hki : ¬ ((k : Int) < (c : Int)) := by omega
        have HD := Lib.hid (FunInv.done HI.out (fun _ => by omega) ⟨a1, c1⟩)
        clear HI
        have ckr := kr.2.1
        have ykr := kr.1
        have zkr := kr.2.2
        have ckf := kf.2.1
        have ykf := kf.1
        have zkf := kf.2.2
        have chx := hx.2.1
        have yhx := hx.1
        have zhx := hx.2.2
        go_wp2
        have gs := grownBy.trans (grownBy.setCell wr w.heap.size 0 (.int .i64 n1)) (grownBy.setCell (wr.setCell ⟨w.heap.size, 0, none⟩ (.int .i64 n1)) w.heap.size 1 (.slice va acc.length vc))
        refine bodyPost_ret (v := .agg #[.int .i64 n1, .slice va acc.length vc]) ?_ rfl ?_
        · have k2 : Bx _ w.heap.size #[.int .i64 n1, .slice va acc.length vc] := (kr.put 0 (by simp) (.int .i64 n1)).put 1 (by simp) (.slice va acc.length vc)
          have c9 := k2.2.1
          simp [results, Tryz.results29, go_sem, c9]
        · exact ⟨⟨n1, acc⟩, _, i, _, rfl, HD.out, own_base (own.kept gs (own_ne own (by omega))) (by omega), hx.grown gs (fun h => by have := Option.some.inj h; omega), grownBy.new gr gs (fun q hq => by have := Option.some.inj hq; omega)⟩
end Go.Proofs.YtdmkhipimcjipaaGreat
end
section
namespace Go.Proofs.YtdmkhipimcjipaaGreat
open Go.RowKit
set_option linter.unusedVariables false
set_option linter.unusedSimpArgs false
structure FsInv (b : List Int) (c k : Nat) (i : Int) (ok : Bool) (acc : List F2) : Prop where
  yes : ok = true → (acc.length : Int) ≤ i ∧ parseF b = funsGo b (c - k) i acc
  no : ok = false → parseF b = none
  lo : 0 ≤ i
  len : i ≤ b.length
  many : acc.length ≤ b.length + 1
  fin : ∀ x ∈ acc, fnIn x
theorem FsInv.start {b : List Int} {i1 : Int} {c : Nat} {ok1 : Bool} (h1 : NumRel b 0 true (c : Int) i1 ok1) : FsInv b c 0 i1 ok1 [] := by
  refine ⟨fun h => ?_, fun h => ?_, h1.le, h1.len, by simp, fun o ho => by simp at ho⟩
  · obtain ⟨_, e1⟩ := h1.yes h
    have := h1.le
    refine ⟨by simp; omega, ?_⟩
    unfold parseF
    rw [e1]
    simp
  · rcases h1.no h with a | e1
    · cases a
    · unfold parseF
      rw [e1]
theorem FsInv.step {b : List Int} {i i1 : Int} {c k : Nat} {ok1 : Bool} {acc : List F2} {x : F2} (h : FsInv b c k i true acc) (hk : k < c) (hb : bytesOk b) (h1 : FunRel b i x i1 ok1) : FsInv b c (k + 1) i1 ok1 (acc ++ [x]) := by
  obtain ⟨g1, g2⟩ := h.yes rfl
  have l1 := h.len
  have hs : c - k = (c - (k + 1)) + 1 := by omega
  refine ⟨fun e => ?_, fun e => ?_, by have := h.lo; have := h1.le; omega, h1.len, by simp; omega, fun o ho => ?_⟩
  · have e1 := h1.yes e
    obtain ⟨p, rfl⟩ : ∃ p : Nat, i = p := ⟨i.toNat, by have := h.lo; omega⟩
    obtain ⟨q, rfl, hpq, _⟩ := funAt_some hb e1
    refine ⟨by simp; omega, ?_⟩
    rw [g2, hs]
    conv => lhs; unfold funsGo
    rw [e1]
  · rw [g2, hs]
    unfold funsGo
    rw [h1.no e]
  · rcases List.mem_append.1 ho with ho | ho
    · exact h.fin o ho
    · rw [List.mem_singleton] at ho
      subst ho
      exact h1.fin
theorem FsInv.done {b : List Int} {i : Int} {c k : Nat} {ok : Bool} {acc : List F2} (h : FsInv b c k i ok acc) (hk : ok = true → c ≤ k) : (ok = true → parseF b = some (acc, i)) ∧ (ok = false → funsOf b = none) := by
  refine ⟨fun e => ?_, fun e => funsOf_none (h.no e)⟩
  have := (h.yes e).2
  rw [show c - k = 0 by have := hk e; omega] at this
  simpa [funsGo] using this
end Go.Proofs.YtdmkhipimcjipaaGreat
end
section
namespace Go.Proofs.YtdmkhipimcjipaaGreat
open Go.RowKit
set_option linter.unusedVariables false
set_option linter.unusedSimpArgs false
theorem bytes_same {a b : ByteArray} (h : a.toList = b.toList) : a = b := by
  rw [ByteArray.toList_eq, ByteArray.toList_eq] at h
  exact Go.WideShapes.bytes_inj h
theorem strOf_inj : ∀ {a b : List Int}, bytesOk a → bytesOk b → strOfNums a = strOfNums b → a = b := by
  intro a b ha hb h
  unfold strOfNums at h
  have h2 : a.map (fun n => UInt8.ofNat n.toNat) = b.map (fun n => UInt8.ofNat n.toNat) := by
    simpa using h
  have hl : a.length = b.length := by simpa using congrArg List.length h2
  refine List.ext_getElem hl fun i h1 h3 => ?_
  have h4 := congrArg (fun l => l[i]?) h2
  simp only [List.getElem?_map, List.getElem?_eq_getElem h1, List.getElem?_eq_getElem h3, Option.map_some, Option.some.injEq] at h4
  have ha' := ha i
  have hb' := hb i
  rw [List.getD_eq_getElem?_getD, List.getElem?_eq_getElem h1] at ha'
  rw [List.getD_eq_getElem?_getD, List.getElem?_eq_getElem h3] at hb'
  simp only [Option.getD_some] at ha' hb'
  have h5 := congrArg UInt8.toNat h4
  rw [UInt8.toNat_ofNat_of_lt' (by show _ < 256; omega), UInt8.toNat_ofNat_of_lt' (by show _ < 256; omega)] at h5
  omega
theorem run_conv_rd {B : Nat} {w : World} {v : Value} {b : List Int} (h : Rd B .u8 w v b) : (convert 22 9 v).run Tryz.prog w = .ok (.string (strOfNums b)) w := by
  rcases h with ⟨rfl, a, cap, rfl⟩ | ⟨bl, off, cap, rfl, _, hbs, _, hc⟩
  · rw [run_convert_bytes_string w _ _ _ _ _ _ Tryz.underlying22 Tryz.underlying5 Tryz.underlying9]
    cases a <;> simp [Conv.bytesToString, loadCells, strOfNums] <;> rfl
  · exact run_convert_bytes_arg w _ _ Tryz.underlying22 Tryz.underlying5 bl off b.length cap b rfl hc _ Tryz.underlying9
set_option maxHeartbeats 400000 in
theorem bytesEqual_any {B B' : Nat} (u v : Value) (a b : List Int) (w : World) (hu : Rd B .u8 w u a) (hv : Rd B' .u8 w v b) (ha : bytesOk a) (hb : bytesOk b) :
    Calls Tryz.prog 30 #[u, v] w fun e w' => e = .returned (.bool (decide (a = b))) ∧ w = w' := by
  have h1 := run_conv_rd hu
  have h2 := run_conv_rd hv
  clear hu hv
  obtain ⟨q, hq⟩ : ∃ q, decide (a = b) = q := ⟨_, rfl⟩
  rw [hq]
  have h4 : ((strOfNums a).toList == (strOfNums b).toList) = q := by
    rw [← hq]
    by_cases h : a = b
    · subst h; simp
    · rw [decide_eq_false h, beq_eq_false_iff_ne]
      exact fun hh => h (strOf_inj ha hb (bytes_same hh))
  clear hq ha hb
  obtain ⟨s, hs⟩ : ∃ s, strOfNums a = s := ⟨_, rfl⟩
  obtain ⟨t, ht⟩ : ∃ t, strOfNums b = t := ⟨_, rfl⟩
  rw [hs] at h1 h4
  rw [ht] at h2 h4
  clear hs ht
  go_enter Tryz.func30, Tryz.ntmps30
  go_wp2
  go_ret
  exact ⟨rfl, rfl⟩
end Go.Proofs.YtdmkhipimcjipaaGreat
end
section
namespace Go.Proofs.YtdmkhipimcjipaaGreat
open Go.RowKit
set_option linter.unusedVariables false
set_option linter.unusedSimpArgs false
set_option maxHeartbeats 3200000 in
set_option maxRecDepth 100000 in
theorem iFunsOk_any {B : Nat} (v : Value) (fs : List F2) (w : World) (hr : RdF B w v fs) (hf : ∀ x ∈ fs, fnIn x) (hlen : fs.length ≤ 4294967296) :
    Calls Tryz.prog 14 #[v] w fun e w' => e = .returned (.bool (funsOk fs)) ∧ Below w.heap.size w w' := by
  have HR := Lib.hid (fun (W : World) (hb : Below w.heap.size w W) => hr.below' hb)
  have HF := Lib.hid hf
  have HI := Lib.hid (fun (a b c : Int) (W : World) => within_any a b c W)
  by_cases hq : inB (fs.length : Int) 1 60 = true
  · have hl := inB_true.1 hq
    have h0 : 0 < fs.length := by omega
    obtain ⟨b, off, cap, lv, rfl, hB, hbs, hcap, q0, q1, ro⟩ := hr.at_ h0
    obtain ⟨la, lc, rfl⟩ := ro.form
    have hz : fs[0] = fs.getD 0 fn0 := (fs_getD h0).symm
    rw [hz] at q0
    obtain ⟨F, hF⟩ : ∃ F, (fs.getD 0 fn0).f = F := ⟨_, rfl⟩
    rw [hF] at q0
    rw [Nat.zero_mul, Nat.add_zero] at q0
    have h0i : (0 : Int) < (fs.length : Int) := by omega
    by_cases hF0 : F = 0
    · subst hF0
      have HH := Lib.hid (show (inB (fs.length : Int) 1 60 && ((fs.getD 0 fn0).f == 0)) = true by rw [hq, hF]; rfl)
      clear hr hf hF hz ro q1
      go_enter Tryz.func14, Tryz.ntmps14
      go_wp2_with (go_at_call 21; refine (within_any _ _ _ _).mono ?_; rw [hq]; rintro e w' ⟨rfl, rfl⟩)
      clear q0
      go_loopw [23] (fun i wr => ∃ k : Nat, k ≤ fs.length ∧ i = .int .i64 k ∧ Below w.heap.size w wr ∧ Hid (∀ j (h : j < fs.length), j < k → fnHead fs[j] = true)) (fun i _ => fs.length - (intOf i).toNat)
      case atStart => exact ⟨0, Nat.zero_le _, rfl, Below.refl _ _, Lib.hid (fun j _ h => absurd h (by omega))⟩
      case round =>
        obtain ⟨k, hk, rfl, hb, hd⟩ := hrel
        by_cases hlt : k < fs.length
        · obtain ⟨b', off', cap', lv', hs, _, hbs', _, c0, c1, ro⟩ := (HR.out _ hb).at_ hlt
          cases hs
          obtain ⟨la', lc', rfl⟩ := ro.form
          have hkl : (k : Int) < (fs.length : Int) := by omega
          obtain ⟨x, hx⟩ : ∃ x, fs[k] = x := ⟨_, rfl⟩
          obtain ⟨q3, hq3⟩ : ∃ q, inB x.f 0 20 = q := ⟨_, rfl⟩
          obtain ⟨q4, hq4⟩ : ∃ q, inB (x.os.length : Int) 1 3000 = q := ⟨_, rfl⟩
          rw [hx] at c0 c1
          have HX := Lib.hid hx
          have HB := Lib.hid hb
          clear hx ro hb
          cases q3
          · have HBAD := Lib.hid (funsOk_bad hlt (by rw [HX.out]; unfold fnHead; rw [hq3]; rfl))
            go_wp2_with (go_at_call 21; refine (within_any _ _ _ _).mono ?_; simp only [hq3]; rintro e w' ⟨rfl, rfl⟩)
            go_ret
            exact ⟨ret_bool HBAD.out.symm, HB.out.alloc HB.out.size _⟩
          cases q4
          · have HBAD := Lib.hid (funsOk_bad hlt (by rw [HX.out]; unfold fnHead; rw [hq3, hq4]; rfl))
            go_wp2_with (go_at_call 21; refine (within_any _ _ _ _).mono ?_; simp only [hq3, hq4]; rintro e w' ⟨rfl, rfl⟩)
            go_ret
            exact ⟨ret_bool HBAD.out.symm, HB.out.alloc HB.out.size _⟩
          · go_wp2_with (go_at_call 21; refine (within_any _ _ _ _).mono ?_; simp only [hq3, hq4]; rintro e w' ⟨rfl, rfl⟩)
            go_roundw
            case rel => exact ⟨k + 1, hlt, by go_num, HB.out.alloc HB.out.size _, Lib.hid (fun j h hj => by
              by_cases e : j = k
              · subst e; rw [HX.out]; unfold fnHead; rw [hq3, hq4]; rfl
              · exact hd.out j h (by omega))⟩
            case measure => simp [intOf]; omega
        · obtain rfl : k = fs.length := by omega
          have HB := Lib.hid hb
          clear hb
          go_wp2
          go_loopw [41] (fun i wr => ∃ k : Nat, k ≤ fs.length ∧ i = .int .i64 k ∧ Below w.heap.size w wr ∧ Hid (∀ j, j < k → fnOk fs j = true)) (fun i _ => fs.length - (intOf i).toNat)
          case atStart => exact ⟨0, Nat.zero_le _, rfl, HB.out, Lib.hid (fun j h => absurd h (by omega))⟩
          case round =>
            clear HB
            obtain ⟨k, hk, rfl, hb, hd2⟩ := hrel
            by_cases hlt : k < fs.length
            · obtain ⟨b', off', cap', lv', hs, _, hbs', _, c0, c1, ro⟩ := (HR.out _ hb).at_ hlt
              cases hs
              obtain ⟨la', lc', rfl⟩ := ro.form
              have hkl : (k : Int) < (fs.length : Int) := by omega
              have hhd := hd.out k hlt hlt
              unfold fnHead at hhd
              rw [Bool.and_eq_true] at hhd
              have hh1 := inB_true.1 hhd.1
              have hh2 := inB_true.1 hhd.2
              have hoi := (HF.out _ (List.getElem_mem hlt)).2
              have HO := Lib.hid (fun (W : World) (hb : Below w.heap.size w W) (o : O3) (ho : o3In o) => iOpOk_any _ fs k o W (HR.out W hb) hlt ho hh1 (by omega) (by omega))
              have HOI := Lib.hid hoi
              obtain ⟨x, hx⟩ : ∃ x, fs[k] = x := ⟨_, rfl⟩
              rw [hx] at c0 c1 ro hh2
              have HOX := Lib.hid (by rw [hx] at hoi; exact hoi : ∀ o ∈ x.os, o3In o)
              have HX := Lib.hid hx
              have RO := Lib.hid (fun (W : World) (h : Below wr.heap.size wr W) => RdE.below' ro h)
              have HB := Lib.hid hb
              have hbz := hb.size
              clear hx hb hhd hh1 hoi ro
              go_wp2_with fail
              clear c0 c1
              generalize hz : wr.alloc _ = z
              obtain ⟨bz, kz⟩ := Bx.alloc hz
              clear hz
              have BZ := Lib.hid bz
              have KZ := Lib.hid kz
              have hzz := bz.size
              clear bz kz
              go_loopw [49] (fun i wy => ∃ t : Nat, t ≤ x.os.length ∧ i = .int .i64 t ∧ Below z.heap.size z wy ∧ Hid (∀ j (h : j < x.os.length), j < t → opOk fs k x.os[j] = true)) (fun i _ => x.os.length - (intOf i).toNat)
              case atStart => exact ⟨0, Nat.zero_le _, rfl, Below.refl _ _, Lib.hid (fun j _ h => absurd h (by omega))⟩
              case round =>
                obtain ⟨t, ht, rfl, hb, hd3⟩ := hrel
                have hbr := BZ.out.trans (hb.mono BZ.out.size)
                have hbw := HB.out.trans (hbr.mono hbz)
                by_cases htl : t < x.os.length
                · obtain ⟨bo, offo, capo, hso, _, hbso, _, d0, d1, d2⟩ := RdO.at_ (RO.out _ hbr) htl
                  cases hso
                  have htt : (t : Int) < (x.os.length : Int) := by omega
                  have hoo := HOX.out _ (List.getElem_mem htl)
                  obtain ⟨q5, hq5⟩ : ∃ q, opOk fs k x.os[t] = q := ⟨_, rfl⟩
                  have ho := fun (W : World) (hb : Below w.heap.size w W) => HO.out W hb x.os[t] hoo
                  rw [hq5] at ho
                  have HO5 := Lib.hid ho
                  have HQ5 := Lib.hid hq5
                  have HB3 := Lib.hid hb
                  have HBW := Lib.hid hbw
                  clear ho hq5 hoo hb hbr hbw
                  go_wp2_with fail
                  refine (HO5.out _ (HBW.out.alloc HBW.out.size _)).mono ?_
                  rintro e w9 ⟨rfl, b9⟩
                  have b9z : Below z.heap.size z w9 := (HB3.out.alloc HB3.out.size _).trans (b9.mono (by simp; have := HB3.out.size; omega))
                  have B9 := Lib.hid b9z
                  have BW9 := Lib.hid ((HBW.out.alloc HBW.out.size _).trans (b9.mono (by simp; have := HBW.out.size; omega)))
                  clear b9 b9z d0 d1 d2 HB3 HBW HO5
                  cases q5
                  · have HBAD := Lib.hid (funsOk_fn hlt (fnOk_op hlt (by rw [HX.out]; exact htl) (by have := HQ5.out; simp only [HX.out]; exact this)))
                    go_wp2
                    go_ret
                    exact ⟨ret_bool HBAD.out.symm, BW9.out⟩
                  · go_wp2
                    go_roundw
                    case rel => exact ⟨t + 1, htl, by go_num, B9.out, Lib.hid (fun j h hj => by
                      by_cases e : j = t
                      · subst e; exact HQ5.out
                      · exact hd3.out j h (by omega))⟩
                    case measure => simp [intOf]; omega
                · obtain rfl : t = x.os.length := by omega
                  obtain ⟨E, hE⟩ : ∃ E : Nat, x.os.length - 1 = E := ⟨_, rfl⟩
                  have hEl : E < x.os.length := by omega
                  obtain ⟨bo, offo, capo, hso, _, hbso, _, d0, _, _⟩ := RdO.at_ (RO.out _ hbr) hEl
                  cases hso
                  have e1 : IntKind.i64.wrap ((x.os.length : Int) - 1) = (E : Int) := by rw [IntWalk.i64_in _ (by omega)]; omega
                  have e2 : (E : Int) < (x.os.length : Int) := by omega
                  have kz := KZ.out.below hb KZ.out.1
                  have qz := kz.2.1
                  have yz := kz.1
                  obtain ⟨C, hC⟩ : ∃ C, x.os[E].c = C := ⟨_, rfl⟩
                  rw [hC] at d0
                  have hlc : lastC x = C := by
                    obtain ⟨_, h2⟩ := lastC_at (x := x) rfl (by omega)
                    rw [← h2, ← hC]
                    simp only [hE]
                  have HLC := Lib.hid hlc
                  have HB3 := Lib.hid hb
                  have HBW := Lib.hid hbw
                  have HD3 := hd3
                  clear hC hlc hE hb hbr hbw kz
                  by_cases hC : C = 7 ∨ C = 19 ∨ C = 21
                  · have HYES := Lib.hid (fnOk_yes hlt (fun j hj => by
                      have h1 : j < x.os.length := by rw [← HX.out]; exact hj
                      have h2 := HD3.out j h1 h1
                      simp only [HX.out]
                      exact h2) (by rw [HX.out]; unfold fnLast; rw [HLC.out]; rcases hC with rfl | rfl | rfl <;> rfl))
                    rcases hC with rfl | rfl | rfl
                    all_goals go_wp2
                    all_goals go_roundw
                    all_goals first
                      | exact ⟨k + 1, hlt, by go_num, HBW.out, Lib.hid (fun j hj => by
                          by_cases e : j = k
                          · subst e; exact HYES.out
                          · exact hd2.out j (by omega))⟩
                      | (simp [intOf]; omega)
                  · have HBAD := Lib.hid (funsOk_fn hlt (fnOk_last hlt (by rw [HX.out]; unfold fnLast; rw [HLC.out]; simp; omega)))
                    have n1 : (C != 7) = true := by simp; omega
                    have n2 : (C != 19) = true := by simp; omega
                    have n3 : (C != 21) = true := by simp; omega
                    have n4 : C ≠ 7 := by omega
                    have n5 : C ≠ 19 := by omega
                    have n6 : C ≠ 21 := by omega
                    clear hC
                    go_wp2
                    go_ret
                    exact ⟨ret_bool HBAD.out.symm, HBW.out⟩
            · obtain rfl : k = fs.length := by omega
              have HYES := Lib.hid (funsOk_yes HH.out (fun j h => hd.out j h h) (fun j hj => hd2.out j hj))
              go_wp2
              go_ret
              exact ⟨ret_bool HYES.out.symm, hb⟩
    · have HH := Lib.hid (funsOk_head (fs := fs) (by rw [hF]; simp [hF0]))
      have hFn : (F != 0) = true := by simp [hF0]
      clear hr hf hF hz ro q1
      go_enter Tryz.func14, Tryz.ntmps14
      go_wp2_with (go_at_call 21; refine (within_any _ _ _ _).mono ?_; rw [hq]; rintro e w' ⟨rfl, rfl⟩)
      go_ret
      exact ⟨ret_bool HH.out.symm, Below.refl _ _⟩
  · have hq : inB (fs.length : Int) 1 60 = false := by simpa using hq
    have HH := Lib.hid (funsOk_head (fs := fs) (by rw [hq]; rfl))
    obtain ⟨a, cap, rfl⟩ := hr.form
    clear hr hf
    go_enter Tryz.func14, Tryz.ntmps14
    go_wp2_with (go_at_call 21; refine (within_any _ _ _ _).mono ?_; rw [hq]; rintro e w' ⟨rfl, rfl⟩)
    go_ret
    exact ⟨ret_bool HH.out.symm, Below.refl _ _⟩
end Go.Proofs.YtdmkhipimcjipaaGreat
end
