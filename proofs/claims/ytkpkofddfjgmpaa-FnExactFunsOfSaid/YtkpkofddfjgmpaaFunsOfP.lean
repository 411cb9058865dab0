/- Functions read from bytes: plain laws; what is read has the bytes that it was read from. -/
import Derived.Test.YtkpkofddfjgmpaaBytesP
import Derived.Test.YtkpkofddfjgmpaaGetNum
namespace Go.Proofs.Ytkpkofddfjgmpaa
open Go.RowKit
set_option linter.unusedVariables false
set_option linter.unusedSimpArgs false

/-- bytes from p up to q. -/
def seg (b : List Int) (p q : Nat) : List Int := (b.drop p).take (q - p)
theorem seg_len {b : List Int} {p q : Nat} (h : q ≤ b.length) : (seg b p q).length = q - p := by
  unfold seg; simp only [List.length_take, List.length_drop]; omega
theorem seg_self (b : List Int) (p : Nat) : seg b p p = [] := by unfold seg; rw [Nat.sub_self]; rfl
theorem seg_add {b : List Int} {p q r : Nat} (h1 : p ≤ q) (h2 : q ≤ r) : seg b p q ++ seg b q r = seg b p r := by
  unfold seg
  rw [show r - p = (q - p) + (r - q) by omega, List.take_add, List.drop_drop, show p + (q - p) = q by omega]
theorem seg_cons {b : List Int} {p q : Nat} (h1 : p < q) (h2 : p < b.length) : seg b p q = b.getD p 0 :: seg b (p + 1) q := by
  unfold seg
  rw [List.drop_eq_getElem_cons h2, show q - p = (q - (p + 1)) + 1 by omega, List.take_succ_cons, List.getD_eq_getElem?_getD, List.getElem?_eq_getElem h2]
  rfl
theorem seg_all (b : List Int) : seg b 0 b.length = b := by simp [seg]

theorem getGo_canon {b : List Int} (hb : bytesOk b) (i : Nat) : ∀ (f k : Nat) (n N j : Int), getGo b i f k n = (N, j, true) →
    ∃ m q : Nat, N = n + (m : Int) * 128 ^ k ∧ (k = 0 ∨ m ≠ 0) ∧ j = (q : Int) ∧ i + k < q ∧ q ≤ b.length ∧ putN m = seg b (i + k) q ∧ N ≤ 2147483647 := by
  intro f
  induction f with
  | zero => intro k n N j h; simp [getGo] at h
  | succ f ih =>
    intro k n N j h
    by_cases hl : (i : Int) + k < b.length
    · have hll : i + k < b.length := by omega
      have hc := hb (i + k)
      obtain ⟨c, hcc⟩ : ∃ c, b.getD (i + k) 0 = c := ⟨_, rfl⟩
      rw [hcc] at hc
      obtain ⟨c', rfl⟩ : ∃ c' : Nat, c = (c' : Int) := ⟨c.toNat, by omega⟩
      rw [getGo_in hl (c := (c' : Int)) (by simpa using hcc) rfl] at h
      by_cases h1 : (c' : Int) < 128
      · rw [if_pos h1] at h
        by_cases h2 : 2147483647 < n + (c' : Int) % 128 * 128 ^ k ∨ ((c' : Int) = 0 ∧ 0 < k)
        · rw [if_pos h2] at h; simp at h
        · rw [if_neg h2] at h
          simp only [Prod.mk.injEq, and_true] at h
          obtain ⟨rfl, rfl⟩ := h
          have hm : (c' : Int) % 128 = c' := by omega
          rw [hm] at h2 ⊢
          refine ⟨c', i + k + 1, rfl, ?_, by omega, by omega, by omega, ?_, by omega⟩
          · by_cases hk : k = 0
            · exact .inl hk
            · right; intro h0; apply h2; right; exact ⟨by omega, by omega⟩
          · rw [putN_small (by omega), seg_cons (by omega) hll, hcc, seg_self]
      · rw [if_neg h1] at h
        obtain ⟨m, q, e1, e2, e3, e4, e5, e6, e7⟩ := ih (k + 1) _ N j h
        have hm0 : m ≠ 0 := by rcases e2 with h | h; omega; exact h
        refine ⟨c' % 128 + 128 * m, q, ?_, .inr (by omega), e3, by omega, e5, ?_, e7⟩
        · rw [e1, Int.pow_succ, show ((c' % 128 + 128 * m : Nat) : Int) = (c' : Int) % 128 + 128 * m by omega, Int.add_mul, Int.mul_comm 128 (m : Int), Int.mul_assoc (m : Int) 128, Int.mul_comm 128 (128 ^ k), Int.add_assoc]
        · rw [putN_big (by omega), seg_cons (by omega) hll, hcc, show (c' % 128 + 128 * m) / 128 = m by omega, show (c' % 128 + 128 * m) % 128 = c' % 128 by omega, e6]
          congr 1
          omega
    · rw [getGo_out hl] at h; simp at h

/-- a number at a place, and the place behind it. -/
def numAt (b : List Int) (i : Int) : Option (Int × Int) := if (getNum b i).2.2 then some ((getNum b i).1, (getNum b i).2.1) else none
theorem numAt_some {b : List Int} (hb : bytesOk b) {i n j : Int} (h : numAt b i = some (n, j)) : ∃ p q : Nat, i = p ∧ j = q ∧ p < q ∧ q ≤ b.length ∧ putNum n = seg b p q ∧ 0 ≤ n ∧ n ≤ 2147483647 := by
  unfold numAt at h
  unfold getNum at h
  cases hw : inB i 0 (b.length - 1)
  · rw [hw] at h; simp at h
  · rw [hw] at h
    have hi := inB_true.1 hw
    obtain ⟨p, rfl⟩ : ∃ p : Nat, i = p := ⟨i.toNat, by omega⟩
    simp only [if_true] at h
    obtain ⟨r, hr⟩ : ∃ r, getGo b (p : Int) 5 0 0 = r := ⟨_, rfl⟩
    rw [hr] at h
    obtain ⟨N, J, ok⟩ := r
    cases ok
    · simp at h
    · simp only [if_true, Option.some.injEq, Prod.mk.injEq] at h
      obtain ⟨rfl, rfl⟩ := h
      obtain ⟨m, q, e1, _, e3, e4, e5, e6, e7⟩ := getGo_canon hb p 5 0 0 N J hr
      simp only [Int.pow_zero, Int.mul_one, Int.zero_add] at e1
      subst e1
      refine ⟨p, q, rfl, e3, by omega, e5, ?_, by omega, e7⟩
      unfold putNum
      rw [if_pos (inB_true.2 ⟨by omega, e7⟩)]
      simpa using e6
def opsGo (b : List Int) : Nat → Int → List O3 → Option (List O3 × Int)
  | 0, i, acc => some (acc, i)
  | c + 1, i, acc => match numAt b i with
    | none => none
    | some (x, i1) => match numAt b i1 with
      | none => none
      | some (y, i2) => match numAt b i2 with
        | none => none
        | some (z, i3) => opsGo b c i3 (acc ++ [⟨x, y - 1073741824, z⟩])
def funAt (b : List Int) (i : Int) : Option (F2 × Int) := match numAt b i with
  | none => none
  | some (f, i1) => match numAt b i1 with
    | none => none
    | some (m, i2) => match opsGo b m.toNat i2 [] with
      | none => none
      | some (os, i3) => some (⟨f, os⟩, i3)
def funsGo (b : List Int) : Nat → Int → List F2 → Option (List F2 × Int)
  | 0, i, acc => some (acc, i)
  | c + 1, i, acc => match funAt b i with
    | none => none
    | some (x, i1) => funsGo b c i1 (acc ++ [x])
def parseF (b : List Int) : Option (List F2 × Int) := match numAt b 0 with
  | none => none
  | some (n, i) => funsGo b n.toNat i []
def funsOf (b : List Int) : Option (List F2) := match parseF b with
  | none => none
  | some (fs, i) => if i = b.length ∧ funsOk fs = true then some fs else none

theorem opsGo_some {b : List Int} (hb : bytesOk b) : ∀ (c : Nat) (p : Nat) (acc os : List O3) (j : Int), opsGo b c p acc = some (os, j) → p ≤ b.length →
    ∃ (t : List O3) (q : Nat), os = acc ++ t ∧ t.length = c ∧ j = q ∧ p ≤ q ∧ q ≤ b.length ∧ t.flatMap opBytes = seg b p q := by
  intro c
  induction c with
  | zero =>
    intro p acc os j h hp
    simp only [opsGo, Option.some.injEq, Prod.mk.injEq] at h
    obtain ⟨rfl, rfl⟩ := h
    exact ⟨[], p, by simp, rfl, rfl, Nat.le_refl _, hp, by rw [seg_self]; rfl⟩
  | succ c ih =>
    intro p acc os j h hp
    unfold opsGo at h
    cases h1 : numAt b (p : Int) with
    | none => rw [h1] at h; cases h
    | some r1 =>
      obtain ⟨x, i1⟩ := r1
      rw [h1] at h
      dsimp only at h
      obtain ⟨p1, q1, e1, rfl, e3, e4, e5, _, _⟩ := numAt_some hb h1
      obtain rfl : p = p1 := by omega
      cases h2 : numAt b (q1 : Int) with
      | none => rw [h2] at h; cases h
      | some r2 =>
        obtain ⟨y, i2⟩ := r2
        rw [h2] at h
        dsimp only at h
        obtain ⟨p2, q2, f1, rfl, f3, f4, f5, _, _⟩ := numAt_some hb h2
        obtain rfl : q1 = p2 := by omega
        cases h3 : numAt b (q2 : Int) with
        | none => rw [h3] at h; cases h
        | some r3 =>
          obtain ⟨z, i3⟩ := r3
          rw [h3] at h
          dsimp only at h
          obtain ⟨p3, q3, g1, rfl, g3, g4, g5, _, _⟩ := numAt_some hb h3
          obtain rfl : q2 = p3 := by omega
          obtain ⟨t, q, k1, k2, k3, k4, k5, k6⟩ := ih q3 _ os j h g4
          refine ⟨⟨x, y - 1073741824, z⟩ :: t, q, by rw [k1]; simp, by simp [k2], k3, by omega, k5, ?_⟩
          rw [List.flatMap_cons, k6]
          unfold opBytes
          dsimp only
          rw [show y - 1073741824 + 1073741824 = y by omega, e5, f5, g5, seg_add (by omega) (by omega), seg_add (by omega) (by omega), seg_add (by omega) (by omega)]
theorem funAt_some {b : List Int} (hb : bytesOk b) {p : Nat} {x : F2} {j : Int} (h : funAt b p = some (x, j)) : ∃ q : Nat, j = q ∧ p < q ∧ q ≤ b.length ∧ fnBytes x = seg b p q := by
  unfold funAt at h
  cases h1 : numAt b (p : Int) with
  | none => rw [h1] at h; cases h
  | some r1 =>
    obtain ⟨f, i1⟩ := r1
    rw [h1] at h
    dsimp only at h
    obtain ⟨p1, q1, e1, rfl, e3, e4, e5, _, _⟩ := numAt_some hb h1
    obtain rfl : p = p1 := by omega
    cases h2 : numAt b (q1 : Int) with
    | none => rw [h2] at h; cases h
    | some r2 =>
      obtain ⟨m, i2⟩ := r2
      rw [h2] at h
      dsimp only at h
      obtain ⟨p2, q2, f1, rfl, f3, f4, f5, f6, f7⟩ := numAt_some hb h2
      obtain rfl : q1 = p2 := by omega
      cases h3 : opsGo b m.toNat (q2 : Int) [] with
      | none => rw [h3] at h; cases h
      | some r3 =>
        obtain ⟨os, i3⟩ := r3
        rw [h3] at h
        simp only [Option.some.injEq, Prod.mk.injEq] at h
        obtain ⟨rfl, rfl⟩ := h
        obtain ⟨t, q, k1, k2, k3, k4, k5, k6⟩ := opsGo_some hb _ _ _ _ _ h3 f4
        refine ⟨q, k3, by omega, k5, ?_⟩
        rw [List.nil_append] at k1
        subst k1
        unfold fnBytes
        dsimp only
        rw [show ((os.length : Nat) : Int) = m by omega, e5, f5, k6, seg_add (by omega) (by omega), seg_add (by omega) (by omega)]
theorem funsGo_some {b : List Int} (hb : bytesOk b) : ∀ (c : Nat) (p : Nat) (acc fs : List F2) (j : Int), funsGo b c p acc = some (fs, j) → p ≤ b.length →
    ∃ (t : List F2) (q : Nat), fs = acc ++ t ∧ t.length = c ∧ j = q ∧ p ≤ q ∧ q ≤ b.length ∧ t.flatMap fnBytes = seg b p q := by
  intro c
  induction c with
  | zero =>
    intro p acc os j h hp
    simp only [funsGo, Option.some.injEq, Prod.mk.injEq] at h
    obtain ⟨rfl, rfl⟩ := h
    exact ⟨[], p, by simp, rfl, rfl, Nat.le_refl _, hp, by rw [seg_self]; rfl⟩
  | succ c ih =>
    intro p acc os j h hp
    unfold funsGo at h
    cases h1 : funAt b (p : Int) with
    | none => rw [h1] at h; cases h
    | some r1 =>
      obtain ⟨x, i1⟩ := r1
      rw [h1] at h
      dsimp only at h
      obtain ⟨q1, rfl, e3, e4, e5⟩ := funAt_some hb h1
      obtain ⟨t, q, k1, k2, k3, k4, k5, k6⟩ := ih q1 _ os j h e4
      refine ⟨x :: t, q, by rw [k1]; simp, by simp [k2], k3, by omega, k5, ?_⟩
      rw [List.flatMap_cons, k6, e5, seg_add (by omega) (by omega)]
theorem parseF_some {b : List Int} (hb : bytesOk b) {fs : List F2} {j : Int} (h : parseF b = some (fs, j)) : ∃ q : Nat, j = q ∧ 0 < q ∧ q ≤ b.length ∧ funsRaw fs = seg b 0 q := by
  unfold parseF at h
  cases h1 : numAt b 0 with
  | none => rw [h1] at h; cases h
  | some r1 =>
    obtain ⟨n, i1⟩ := r1
    rw [h1] at h
    dsimp only at h
    obtain ⟨p1, q1, e1, rfl, e3, e4, e5, e6, e7⟩ := numAt_some hb h1
    obtain rfl : p1 = 0 := by omega
    obtain ⟨t, q, k1, k2, k3, k4, k5, k6⟩ := funsGo_some hb _ _ _ _ _ h e4
    refine ⟨q, k3, by omega, k5, ?_⟩
    rw [List.nil_append] at k1
    subst k1
    unfold funsRaw
    rw [show ((fs.length : Nat) : Int) = n by omega, e5, k6, seg_add (by omega) (by omega)]
/-- the two ways of asking whether what was read is all, and right. -/
theorem parseF_same {b : List Int} (hb : bytesOk b) {fs : List F2} {j : Int} (h : parseF b = some (fs, j)) : (funsBytes fs = b ∧ b ≠ []) ↔ (j = b.length ∧ funsOk fs = true) := by
  obtain ⟨q, rfl, h1, h2, h3⟩ := parseF_some hb h
  unfold funsBytes
  constructor
  · rintro ⟨h4, h5⟩
    cases hok : funsOk fs
    · rw [hok] at h4
      exact absurd h4.symm h5
    · rw [hok, if_pos rfl, h3] at h4
      have := seg_len (b := b) (p := 0) h2
      rw [h4] at this
      exact ⟨by omega, rfl⟩
  · rintro ⟨h4, h5⟩
    obtain rfl : q = b.length := by omega
    rw [h5, if_pos rfl, h3, seg_all]
    exact ⟨rfl, fun h => by rw [h] at h1; simp at h1⟩
theorem funsOf_of {b : List Int} (hb : bytesOk b) {fs : List F2} {j : Int} (h : parseF b = some (fs, j)) : funsOf b = if funsBytes fs = b ∧ b ≠ [] then some fs else none := by
  unfold funsOf
  rw [h]
  dsimp only
  by_cases hc : j = b.length ∧ funsOk fs = true
  · rw [if_pos hc, if_pos ((parseF_same hb h).2 hc)]
  · rw [if_neg hc, if_neg (fun h' => hc ((parseF_same hb h).1 h'))]
theorem funsOf_none {b : List Int} (h : parseF b = none) : funsOf b = none := by unfold funsOf; rw [h]
theorem numAt_bound {b : List Int} (hb : bytesOk b) {i n j : Int} (h : numAt b i = some (n, j)) : 0 ≤ i ∧ i < j ∧ j ≤ b.length ∧ 0 ≤ n ∧ n ≤ 2147483647 := by
  obtain ⟨p, q, rfl, rfl, h1, h2, h3, h4, h5⟩ := numAt_some hb h
  exact ⟨by omega, by omega, by omega, h4, h5⟩

/-- what a reader's step makes. -/
structure NumRel (b : List Int) (i : Int) (ok : Bool) (n i' : Int) (ok' : Bool) : Prop where
  yes : ok' = true → ok = true ∧ numAt b i = some (n, i')
  no : ok' = false → ok = false ∨ numAt b i = none
  le : i ≤ i'
  len : i' ≤ b.length
  lo : 0 ≤ n
  hi : n ≤ 2147483647

end Go.Proofs.Ytkpkofddfjgmpaa
