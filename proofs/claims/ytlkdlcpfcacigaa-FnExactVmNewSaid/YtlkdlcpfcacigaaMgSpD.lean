import Derived.Test.YtlkdlcpfcacigaaMgDepD
import Derived.Test.YtlkdlcpfcacigaaAppR
import Derived.Test.YtlkdlcpfcacigaaMgHand
import Derived.Test.YtlkdlcpfcacigaaOwnT
import Derived.Test.YtlkdlcpfcacigaaMgAllocP
import Derived.Test.YtlkdlcpfcacigaaVerL
import Derived.Test.YtlkdlcpfcacigaaFunsOkS
import Derived.Test.YtlkdlcpfcacigaaDepW
/- Depths as the reference looks for them, step for step. Plain. -/
namespace Go.Proofs.Ytlkdlcpfcacigaa
open Go.RowKit
set_option linter.unusedVariables false
set_option linter.unusedSimpArgs false

def folS (o : O3) (p : Int) : List Int :=
  if o.c = 7 ∨ o.c = 21 then [] else if o.c = 19 then [o.n] else if o.c = 18 then [o.n, p + 1] else if o.c = 10 ∨ o.c = 11 then [o.m, p + 1] else [p + 1]
theorem folS_mem (o : O3) (p q : Int) : q ∈ folS o p ↔ q ∈ fol o p := by
  unfold folS fol
  by_cases h1 : o.c = 7 ∨ o.c = 21
  · rw [if_pos h1, if_pos h1]
  by_cases h2 : o.c = 19
  · rw [if_neg h1, if_neg h1, if_pos h2, if_pos h2]
  by_cases h3 : o.c = 18
  · rw [if_neg h1, if_neg h1, if_neg h2, if_neg h2, if_pos h3, if_neg (by omega), if_pos h3]
    simp only [List.mem_cons, List.not_mem_nil, or_false]
    exact Or.comm
  · rw [if_neg h1, if_neg h1, if_neg h2, if_neg h2, if_neg h3]
    by_cases h4 : o.c = 10 ∨ o.c = 11
    · rw [if_pos h4, if_pos h4]
      simp only [List.mem_cons, List.not_mem_nil, or_false]
      exact Or.comm
    · rw [if_neg h4, if_neg h4, if_neg h3]
/-- how far the reference's search is. -/
structure DS where
  (o t : List Int) (k : Bool)
def goS (s : DS) (q d : Int) : DS :=
  if (s.o.length : Int) ≤ q ∨ 60 < d then ⟨s.o, s.t, false⟩ else if s.o.getD q.toNat 0 < 0 then ⟨s.o.set q.toNat d, s.t ++ [q], s.k⟩ else if s.o.getD q.toNat 0 = d then s else ⟨s.o, s.t, false⟩
def allS (s : DS) (d : Int) : List Int → DS
  | [] => s
  | q :: l => allS (goS s q d) d l
def badS (o : O3) (d : Int) : Bool := (decide (d - 1 < takesOf o.c o.m) || (decide (o.c = 2) && decide (d ≤ o.n))) || (decide (o.c = 7) && decide (d ≠ 2))
def oneS (o : O3) (s : DS) (p d : Int) : DS := if badS o d then ⟨s.o, s.t, false⟩ else allS s (aftN o d) (folS o p)
theorem go_len (s : DS) (q d : Int) : (goS s q d).o.length = s.o.length ∧ (goS s q d).t.length ≤ s.t.length + 1 := by
  unfold goS
  split
  · exact ⟨rfl, Nat.le_succ _⟩
  · split
    · exact ⟨by simp, by simp⟩
    · split
      · exact ⟨rfl, Nat.le_succ _⟩
      · exact ⟨rfl, Nat.le_succ _⟩
theorem go_no {s : DS} {q d : Int} (h : s.k = false) : (goS s q d).k = false := by
  unfold goS
  split
  · rfl
  · split
    · exact h
    · split
      · exact h
      · rfl
theorem all_no {d : Int} : ∀ (l : List Int) {s : DS}, s.k = false → (allS s d l).k = false := by
  intro l
  induction l with
  | nil => intro s h; exact h
  | cons q l ih => intro s h; exact ih (go_no h)
theorem all_big {d : Int} {l : List Int} {s : DS} (hd : 60 < d) (hl : l ≠ []) : (allS s d l).k = false := by
  cases l with
  | nil => exact absurd rfl hl
  | cons q l =>
    refine all_no l ?_
    unfold goS
    rw [if_pos (.inr hd)]
theorem all_in {d : Int} (hd : d ≤ 60) : ∀ (l out todo : List Int), (∀ q ∈ l, 0 ≤ q ∧ q < out.length) →
    (∃ o t, dIn d l out todo = some (some (o, t)) ∧ allS ⟨out, todo, true⟩ d l = ⟨o, t, true⟩) ∨ (dIn d l out todo = some none ∧ (allS ⟨out, todo, true⟩ d l).k = false) := by
  intro l
  induction l with
  | nil => intro out todo _; exact .inl ⟨out, todo, rfl, rfl⟩
  | cons q l ih =>
    intro out todo hq
    obtain ⟨h0, h1⟩ := hq q (List.mem_cons_self ..)
    have hn : ¬ ((out.length : Int) ≤ q ∨ 60 < d) := by omega
    unfold dIn allS goS
    dsimp only
    rw [if_pos ⟨h0, h1⟩, if_neg hn]
    by_cases h2 : out.getD q.toNat 0 < 0
    · rw [if_pos h2, if_pos h2]
      exact ih _ _ (fun r hr => by rw [List.length_set]; exact hq r (List.mem_cons_of_mem _ hr))
    · rw [if_neg h2, if_neg h2]
      by_cases h3 : out.getD q.toNat 0 = d
      · rw [if_pos h3, if_pos h3]
        exact ih _ _ (fun r hr => hq r (List.mem_cons_of_mem _ hr))
      · rw [if_neg h3, if_neg h3]
        exact .inr ⟨rfl, all_no l rfl⟩
theorem aft_bad {o : O3} {d : Int} (hb : badS o d = true) : aftB o d = true := by
  unfold badS at hb
  unfold aftB
  simp only [Bool.or_eq_true, Bool.and_eq_true, decide_eq_true_eq] at hb ⊢
  omega
/-- one step of the search: as the program's. -/
theorem one_in {os : List O3} {p : Int} {out todo : List Int} {d : Int} (hd : d ≤ 60) (hin : ∀ q ∈ folS (opT os p) p, 0 ≤ q ∧ q < out.length) :
    if aftB (opT os p) d then (oneS (opT os p) ⟨out, todo, true⟩ p d).k = false else
      (∃ o t, dIn (aftN (opT os p) d) (folS (opT os p) p) out todo = some (some (o, t)) ∧ oneS (opT os p) ⟨out, todo, true⟩ p d = ⟨o, t, true⟩) ∨ (dIn (aftN (opT os p) d) (folS (opT os p) p) out todo = some none ∧ (oneS (opT os p) ⟨out, todo, true⟩ p d).k = false) := by
  generalize opT os p = o at hin ⊢
  unfold oneS
  by_cases hb : badS o d = true
  · rw [if_pos (aft_bad hb), if_pos hb]
  · rw [if_neg hb]
    by_cases ha : aftB o d = true
    · rw [if_pos ha]
      have h60 : 60 < aftN o d ∧ ¬ (o.c = 7 ∨ o.c = 21) := by
        unfold badS at hb
        unfold aftB at ha
        unfold aftN
        simp only [Bool.or_eq_true, Bool.and_eq_true, decide_eq_true_eq] at hb ha
        have hlt : 60 < d - takesOf o.c o.m + putsOf o.c := by omega
        refine ⟨hlt, fun h => ?_⟩
        have hp : putsOf o.c = 0 := by unfold putsOf; rw [if_pos (by omega)]
        have ht : 0 ≤ takesOf o.c o.m := by
          rcases h with h | h <;> (unfold takesOf; rw [h]; simp)
        omega
      refine all_big h60.1 ?_
      unfold folS
      rw [if_neg h60.2]
      split
      · simp
      · split
        · simp
        · split <;> simp
    · rw [if_neg ha]
      have := all_in (d := aftN o d) (by
        unfold aftB at ha
        unfold aftN
        simp only [Bool.or_eq_true, Bool.and_eq_true, decide_eq_true_eq] at ha
        omega) _ out todo hin
      exact this

end Go.Proofs.Ytlkdlcpfcacigaa

/- l15Go: the reference's search comes to a place. -/
namespace Go.Proofs.Ytlkdlcpfcacigaa
open Go.RowKit
set_option linter.unusedVariables false
set_option linter.unusedSimpArgs false

theorem sEffect_lit (c n m : Int) (hc : 1 ≤ c ∧ c ≤ 21) (w : World) :
    Calls Try.prog 65 #[.agg #[.int .i64 c, .int .i64 n, .int .i64 m]] w fun e w' => e = .returned (.tuple #[.int .i64 (takesOf c m), .int .i64 (putsOf c)]) ∧ Below w.heap.size w w' := by
  have hcs : c = 1 ∨ c = 2 ∨ c = 3 ∨ c = 4 ∨ c = 5 ∨ c = 6 ∨ c = 7 ∨ c = 8 ∨ c = 9 ∨ c = 10 ∨ c = 11 ∨ c = 12 ∨ c = 13 ∨ c = 14 ∨ c = 15 ∨ c = 16 ∨ c = 17 ∨ c = 18 ∨ c = 19 ∨ c = 20 ∨ c = 21 := by omega
  rcases hcs with rfl | rfl | rfl | rfl | rfl | rfl | rfl | rfl | rfl | rfl | rfl | rfl | rfl | rfl | rfl | rfl | rfl | rfl | rfl | rfl | rfl
  all_goals
    go_enter Try.func65, Try.ntmps65
    go_wp2_with fail
    generalize hxx : w.alloc _ = x0
    obtain ⟨bx, k1⟩ := Bx.alloc hxx
    clear hxx
    have ck := k1.2.1
    have yk := k1.1
    go_wp2
    go_ret2
    exact ⟨rfl, bx⟩

macro "vret" : tactic => `(tactic| ((try simp only [Exit.inBlock, Exit.then]); first | refine bodyPost_ret (results_none rfl _ _ _) rfl ?_ | refine bodyPost_end (results_none rfl _ _ _) rfl ?_))
/-- the reference's search in its box g. -/
structure SR (base g : Nat) (w : World) (s : DS) : Prop where
  hb : base ≤ w.heap.size
  hg : base ≤ g
  rows : ∃ dv tv, Bx w g #[dv, tv, .bool s.k] ∧ w.ownsRow base 3 1 dv s.o.length (s.o.map (Value.int .i64)) ∧ w.ownsRow base 3 1 tv s.t.length (s.t.map (Value.int .i64)) ∧
    (∀ i, dv.ownBlock = some i → i ≠ g ∧ tv.ownBlock ≠ some i) ∧ tv.ownBlock ≠ some g
theorem SR.below {base g : Nat} {w w' : World} {s : DS} (h : SR base g w s) (hb : Below w.heap.size w w') : SR base g w' s := by
  obtain ⟨h1, h2, dv, tv, h3, h4, h5, h6, h7⟩ := h
  exact ⟨Nat.le_trans h1 hb.size, h2, dv, tv, h3.below hb h3.1, own_below h4 hb (own_lt h4), own_below h5 hb (own_lt h5), h6, h7⟩
theorem set_far {base : Nat} {w : World} {g j : Nat} {e : TypeId} {sz n : Nat} {v u : Value} {xs : List Value} (h : w.ownsRow base e sz v n xs) (hne : v.ownBlock ≠ some g) : (w.setCell ⟨g, j, none⟩ u).ownsRow base e sz v n xs :=
  h.kept (grownBy.setCell w g j u) (.inr hne)

set_option maxHeartbeats 1600000 in
set_option maxRecDepth 100000 in
theorem l15Go_any {base g : Nat} {s : DS} (q : Nat) (d : Int) (w : World) (h : SR base g w s) (hd : -100000000000 ≤ d ∧ d ≤ 100000000000) (ht : s.t.length ≤ 200000) :
    Calls Try.prog 52 #[.pointer (some ⟨g, 0, none⟩), .int .i64 q, .int .i64 d] w fun e w' => (∃ v, e = .returned v) ∧ SR base g w' (goS s q d) ∧ Below base w w' := by
  obtain ⟨i0, hi, hz0, hz1, hz2⟩ := info_parts Try.infoI2
  obtain ⟨hb, hg, dv, tv, k1, o1, o2, n1, n2⟩ := h
  obtain ⟨da, dc, rfl⟩ := own_form o1
  obtain ⟨ta, tc, rfl⟩ := own_form o2
  have c0 : w.cell? ⟨g, 0, none⟩ = some (.slice da s.o.length dc) := k1.2.1 0
  have c1 : w.cell? ⟨g, 1, none⟩ = some (.slice ta s.t.length tc) := k1.2.1 1
  have c2 : w.cell? ⟨g, 2, none⟩ = some (.bool s.k) := k1.2.1 2
  have f1 := k1.2.2 1
  have f2 := k1.2.2 2
  have hgl := k1.1
  have hno : SR base g (w.setCell ⟨g, 2, none⟩ (.bool false)) ⟨s.o, s.t, false⟩ := by
    refine ⟨by simpa using hb, hg, _, _, ?_, set_far o1 (fun e => (n1 _ e).1 rfl), set_far o2 n2, n1, n2⟩
    have := k1.set 2 (by simp) (.bool false)
    simpa using this
  have hbn : Below base w (w.setCell ⟨g, 2, none⟩ (.bool false)) := (Below.refl _ _).setCell (p := ⟨g, 2, none⟩) hg _
  have NO := Lib.hid (And.intro hno hbn)
  clear hno hbn
  by_cases hql : (s.o.length : Int) ≤ (q : Int)
  · have HG := Lib.hid (show goS s q d = ⟨s.o, s.t, false⟩ from if_pos (.inl hql))
    have hql' : (q : Int) ≥ (s.o.length : Int) := hql
    rw [HG.out]
    clear k1 o1 o2 n1 n2 HG
    go_enter Try.func52, Try.ntmps52
    go_wp2
    vret
    exact ⟨⟨_, rfl⟩, NO.out.1, NO.out.2⟩
  by_cases hd6 : 60 < d
  · have HG := Lib.hid (show goS s q d = ⟨s.o, s.t, false⟩ from if_pos (.inr hd6))
    rw [HG.out]
    clear k1 o1 o2 n1 n2 HG
    go_enter Try.func52, Try.ntmps52
    go_wp2
    vret
    exact ⟨⟨_, rfl⟩, NO.out.1, NO.out.2⟩
  have hq : q < s.o.length := by omega
  obtain ⟨dg, rfl, cd⟩ := own_cell_any o1 q hq
  obtain ⟨x, hx⟩ : ∃ x, s.o.getD q 0 = x := ⟨_, rfl⟩
  rw [List.getElem?_map, List.getElem?_eq_getElem hq, Option.map_some, show s.o[q] = x by rw [← hx, List.getD_eq_getElem?_getD, List.getElem?_eq_getElem hq]; rfl] at cd
  have fd := own_frozen o1 q
  have hdl : dg < w.heap.size := (o1.lt _ rfl).2
  have hqi : (q : Int) < (s.o.length : Int) := by omega
  by_cases hx0 : x < 0
  · have HG := Lib.hid (show goS s q d = ⟨s.o.set q d, s.t ++ [(q : Int)], s.k⟩ by unfold goS; rw [if_neg (by omega), Int.toNat_natCast, hx, if_pos hx0])
    rw [HG.out]
    clear HG
    have os1 := own_set o1 q hq (.int .i64 d)
    rw [← List.map_set] at os1
    have g3 := grownBy.setCell w dg q (.int .i64 d)
    have hng := (n1 dg rfl).1
    have hnt := (n1 dg rfl).2
    have ot1 := o2.kept g3 (.inr hnt)
    have k2 := k1.grown g3 (fun e => hng (Option.some.inj e).symm)
    have hbd : base ≤ dg := (o1.lt _ rfl).1
    have b4 : Below base w (w.setCell ⟨dg, q, none⟩ (.int .i64 d)) := (Below.refl _ _).setCell (p := ⟨dg, q, none⟩) hbd _
    have OS1 := Lib.hid os1
    have OT1 := Lib.hid ot1
    have K2 := Lib.hid k2
    have B4 := Lib.hid b4
    have e5 : (w.setCell ⟨dg, q, none⟩ (.int .i64 d)).heap.size = w.heap.size := by simp
    have tne : (Value.slice ta s.t.length tc).ownBlock ≠ some g := n2
    clear os1 ot1 k2 b4 o1 o2 k1 n1 n2 g3 NO hx
    go_enter Try.func52, Try.ntmps52
    go_wp2_with (at_builtin; refine wpList_app1_at rfl _ _ 25 rfl base 3 i0 (.int .i64 0) 1 8 Try.underlying25 hi hz0 hz1 hz2 rfl (by decide) _ _ _ rfl OT1.out #[_] rfl ?_ w.heap.size e5 rfl ?_ ?_ ?_ ?_)
    · rfl
    · unfold maxLen; omega
    · omega
    · intro v' w4 ho4 hg4 hat4
      obtain ⟨va, vc, hv'⟩ := own_form ho4
      subst hv'
      obtain ⟨v', hv'⟩ : ∃ v', Value.slice va (s.t.length + 1) vc = v' := ⟨_, rfl⟩
      rw [hv'] at ho4 hat4
      have k3 := K2.out.grown hg4 (fun e => tne e.symm)
      have j1 := OS1.out.kept hg4 (.inr (fun e => hnt e.symm))
      have j2 : w4.ownsRow base 3 1 v' (s.t ++ [(q : Int)]).length ((s.t ++ [(q : Int)]).map (Value.int .i64)) := by simpa using ho4
      have j3 : v'.ownBlock ≠ some dg ∧ v'.ownBlock ≠ some g := by
        rcases hat4 with h | h
        · rw [h]; exact ⟨hnt, tne⟩
        · rw [h]
          exact ⟨fun e => by have := Option.some.inj e; omega, fun e => by have := Option.some.inj e; omega⟩
      have z4 := hg4.size
      have B5 := B4.out.trans (Below.of_grown hg4 (by rw [e5]; exact hb) (fun k hk => (OT1.out.lt k hk).1))
      have g1 : w4.cell? ⟨g, 1, none⟩ = some (.slice ta s.t.length tc) := k3.2.1 1
      have g1f := k3.2.2 1
      have g2 := k3.1
      have fin : SR base g (w4.setCell ⟨g, 1, none⟩ v') ⟨s.o.set q d, s.t ++ [(q : Int)], s.k⟩ := by
        refine ⟨?_, hg, .slice (some ⟨dg, 0, none⟩) s.o.length dc, v', ?_, ?_, set_far j2 j3.2, ?_, j3.2⟩
        · have := B5.size; simp; omega
        · have := k3.set 1 (by simp) v'
          simpa using this
        · have := set_far (j := 1) (u := v') (g := g) j1 (fun e => hng (Option.some.inj e))
          simpa using this
        · intro i hi'
          have : dg = i := Option.some.inj hi'
          subst this
          exact ⟨hng, j3.1⟩
      have FIN := Lib.hid (And.intro fin (B5.setCell (p := ⟨g, 1, none⟩) hg v'))
      rw [← hv'] at FIN
      clear hv' k3 j1 j2 j3 B5 fin ho4 hg4 hat4 OS1 OT1 K2 B4 cd fd e5 c0 c1 c2 f1 f2
      go_wp2
      vret
      exact ⟨⟨_, rfl⟩, FIN.out.1, FIN.out.2⟩
  · have hw : SR base g w s := ⟨hb, hg, _, _, k1, o1, o2, n1, n2⟩
    have HW := Lib.hid hw
    clear hw o1 o2 n1 n2 k1
    by_cases he : x = d
    · have HG := Lib.hid (show goS s q d = s by unfold goS; rw [if_neg (by omega), Int.toNat_natCast, hx, if_neg hx0, if_pos he])
      rw [HG.out]
      subst he
      clear HG hx
      go_enter Try.func52, Try.ntmps52
      go_wp2
      vret
      exact ⟨⟨_, rfl⟩, HW.out, Below.refl _ _⟩
    · have HG := Lib.hid (show goS s q d = ⟨s.o, s.t, false⟩ by unfold goS; rw [if_neg (by omega), Int.toNat_natCast, hx, if_neg hx0, if_neg he])
      rw [HG.out]
      have hne : (x != d) = true := by simpa using he
      clear HG hx HW
      go_enter Try.func52, Try.ntmps52
      go_wp2
      vret
      exact ⟨⟨_, rfl⟩, NO.out.1, NO.out.2⟩

end Go.Proofs.Ytlkdlcpfcacigaa

/- l15One: the reference's search goes on from a place. -/
namespace Go.Proofs.Ytlkdlcpfcacigaa
open Go.RowKit
set_option linter.unusedVariables false
set_option linter.unusedSimpArgs false

theorem Bx.set3g {w : World} {g : Nat} {z0 z1 z2 : Value} (k : Bx w g #[z0, z1, z2]) (a0 a1 a2 : Value) : Bx (((w.setCell ⟨g, 0, none⟩ a0).setCell ⟨g, 1, none⟩ a1).setCell ⟨g, 2, none⟩ a2) g #[a0, a1, a2] ∧ Below g w (((w.setCell ⟨g, 0, none⟩ a0).setCell ⟨g, 1, none⟩ a1).setCell ⟨g, 2, none⟩ a2) := by
  refine ⟨?_, ?_⟩
  · have := ((k.set 0 (by simp) a0).set 1 (by simp) a1).set 2 (by simp) a2
    simpa using this
  · exact (((Below.refl _ _).setCell (p := ⟨g, 0, none⟩) (Nat.le_refl _) _).setCell (p := ⟨g, 1, none⟩) (Nat.le_refl _) _).setCell (p := ⟨g, 2, none⟩) (Nat.le_refl _) _

theorem SR.no {base g : Nat} {w : World} {s : DS} (h : SR base g w s) : (SR base g (w.setCell ⟨g, 2, none⟩ (.bool false)) ⟨s.o, s.t, false⟩ ∧ Below base w (w.setCell ⟨g, 2, none⟩ (.bool false))) ∧ w.cell? ⟨g, 2, none⟩ = some (.bool s.k) ∧ w.frozen? ⟨g, 2, none⟩ = false ∧ g < w.heap.size := by
  obtain ⟨hb, hg, dv, tv, k1, o1, o2, n1, n2⟩ := h
  refine ⟨⟨⟨by simpa using hb, hg, _, _, ?_, set_far o1 (fun e => (n1 _ e).1 rfl), set_far o2 n2, n1, n2⟩, (Below.refl _ _).setCell (p := ⟨g, 2, none⟩) hg _⟩, k1.2.1 2, k1.2.2 2, k1.1⟩
  have := k1.set 2 (by simp) (.bool false)
  simpa using this

set_option maxHeartbeats 3200000 in
set_option maxRecDepth 100000 in
theorem l15One_any {base g : Nat} {s : DS} (p : Nat) (ob ooff ocap N : Nat) (c n m d : Int) (w : World) (h : SR base g w s) (hp : p < N) (hob : ob < w.heap.size)
    (q0 : w.cell? ⟨ob, ooff + p * 3, none⟩ = some (.int .i64 c)) (q1 : w.cell? ⟨ob, ooff + p * 3 + 1, none⟩ = some (.int .i64 n)) (q2 : w.cell? ⟨ob, ooff + p * 3 + 2, none⟩ = some (.int .i64 m))
    (hr : 1 ≤ c ∧ c ≤ 21) (hn : -2147483648 ≤ n ∧ n ≤ 2147483648) (hm : -2147483648 ≤ m ∧ m ≤ 2147483648) (hpl : p < s.o.length) (hd : s.o.getD p 0 = d) (hdb : 1 ≤ d ∧ d ≤ 60) (hN : N ≤ 3000) (ht : s.t.length ≤ 100000)
    (hf : ∀ q ∈ folS ⟨c, n, m⟩ p, 0 ≤ q) :
    Calls Try.prog 53 #[.pointer (some ⟨g, 0, none⟩), .slice (some ⟨ob, ooff, none⟩) N ocap, .int .i64 p] w fun e w' => (∃ v, e = .returned v) ∧ SR base g w' (oneS ⟨c, n, m⟩ s p d) ∧ Below base w w' := by
  have HE := Lib.hid (fun (W : World) => sEffect_lit c n m hr W)
  obtain ⟨⟨t0, t1⟩, p0, p1⟩ := takes_bd2 (c := c) hm
  have HS := Lib.hid h
  have HR : oneS ⟨c, n, m⟩ s p d = oneS ⟨c, n, m⟩ s p d := rfl
  unfold oneS badS aftN at HR
  dsimp only at HR
  obtain ⟨T, hT⟩ : ∃ T, takesOf c m = T := ⟨_, rfl⟩
  obtain ⟨P, hP⟩ : ∃ P, putsOf c = P := ⟨_, rfl⟩
  obtain ⟨R, hR⟩ : ∃ R, oneS ⟨c, n, m⟩ s p d = R := ⟨_, rfl⟩
  have hR2 := hR
  unfold oneS badS aftN at hR2
  dsimp only at hR2
  rw [hR]
  rw [hT] at HE hR2
  rw [hP] at HE hR2
  rw [hT] at t0 t1
  rw [hP] at p0 p1
  clear hT hP HR hR
  have e1 : IntKind.i64.wrap (d - 1) = d - 1 := IntWalk.i64_in _ (by omega)
  have e2 : IntKind.i64.wrap (d - T) = d - T := IntWalk.i64_in _ (by omega)
  have e3 : IntKind.i64.wrap (d - T + P) = d - T + P := IntWalk.i64_in _ (by omega)
  have e4 : IntKind.i64.wrap ((p : Int) + 1) = (p : Int) + 1 := IntWalk.i64_in _ (by omega)
  have HG := Lib.hid (fun (s : DS) (q : Nat) (W : World) (h : SR base g W s) (ht : s.t.length ≤ 200000) => l15Go_any q (d - T + P) W h (by omega) ht)
  obtain ⟨hb, hg, dv, tv, k1, o1, o2, n1, n2⟩ := h
  obtain ⟨da, dc, rfl⟩ := own_form o1
  obtain ⟨dg, rfl, cd⟩ := own_cell_any o1 p hpl
  rw [List.getElem?_map, List.getElem?_eq_getElem hpl, Option.map_some, show s.o[p] = d by rw [← hd, List.getD_eq_getElem?_getD, List.getElem?_eq_getElem hpl]; rfl] at cd
  have c0 : w.cell? ⟨g, 0, none⟩ = some (.slice (some ⟨dg, 0, none⟩) s.o.length dc) := k1.2.1 0
  have hgl := k1.1
  have hdl : dg < w.heap.size := (o1.lt _ rfl).2
  have hpi : (p : Int) < (s.o.length : Int) := by omega
  have hpN : (p : Int) < (N : Int) := by omega
  have HN := Lib.hid hN
  clear k1 o1 o2 n1 n2 hd hN
  go_enter Try.func53, Try.ntmps53
  go_wp2_with fail
  generalize hxx : w.alloc _ = x0
  obtain ⟨bb, kb⟩ := Bx.alloc hxx
  have hx0 : x0.heap.size = w.heap.size + 1 := by rw [← hxx, World.size_alloc]
  clear hxx
  refine (HE.out x0).mono ?_
  rintro e w1 ⟨rfl, b1⟩
  replace kb := kb.below b1 kb.1
  replace bb := bb.trans (b1.mono bb.size)
  clear b1
  have SR1 := Lib.hid (HS.out.below bb)
  have BB := Lib.hid (bb.mono hb)
  have BS := Lib.hid bb
  have hws := bb.size
  clear bb HS HE c0 cd q0 q1 q2 hdl hgl hob
  obtain ⟨NO1, nc2, nf2, ngl⟩ := SR1.out.no
  have NO := Lib.hid NO1
  clear NO1
  by_cases hA : d - 1 < T
  · have hA' : T > d - 1 := hA
    have hRR : R = ⟨s.o, s.t, false⟩ := by rw [← hR2, if_pos (by simp only [Bool.or_eq_true, Bool.and_eq_true, decide_eq_true_eq]; exact .inl (.inl hA))]
    subst hRR
    clear hR2 HG
    have ckb := kb.2.1
    have ykb := kb.1
    have zkb := kb.2.2
    go_wp2
    vret
    exact ⟨⟨_, rfl⟩, NO.out.1, BB.out.trans NO.out.2⟩
  by_cases h2 : c = 2
  · subst h2
    by_cases hn2 : d ≤ n
    · have hn3 : n ≥ d := hn2
      have hRR : R = ⟨s.o, s.t, false⟩ := by rw [← hR2, if_pos (by simp only [Bool.or_eq_true, Bool.and_eq_true, decide_eq_true_eq]; exact .inl (.inr ⟨trivial, hn2⟩))]
      subst hRR
      clear hR2 HG
      have ckb := kb.2.1
      have ykb := kb.1
      have zkb := kb.2.2
      go_wp2
      vret
      exact ⟨⟨_, rfl⟩, NO.out.1, BB.out.trans NO.out.2⟩
    · have hn3 : ¬ n ≥ d := hn2
      have hRR : R = allS s (d - T + P) ([(p : Int) + 1]) := by rw [← hR2, if_neg (by simp only [Bool.or_eq_true, Bool.and_eq_true, decide_eq_true_eq]; omega)]; rfl
      subst hRR
      clear hR2 NO nc2 nf2 ngl
      have ckb := kb.2.1
      have ykb := kb.1
      have zkb := kb.2.2
      go_wp2_with fail
      refine ((HG.out s (p + 1) _ SR1.out (by omega)).mono ?_)
      rintro e w2 ⟨⟨v2, rfl⟩, sr2, b2⟩
      have S2 := Lib.hid sr2
      have B2 := Lib.hid (BB.out.trans b2)
      clear sr2 b2
      go_wp2
      vret
      exact ⟨⟨_, rfl⟩, S2.out, B2.out⟩
  by_cases h7 : c = 7
  · subst h7
    by_cases hd2 : d = 2
    · have hd3 : (d != 2) = false := by simpa using hd2
      have hRR : R = allS s (d - T + P) ([]) := by rw [← hR2, if_neg (by simp only [Bool.or_eq_true, Bool.and_eq_true, decide_eq_true_eq]; omega)]; rfl
      subst hRR
      clear hR2 NO nc2 nf2 ngl
      have ckb := kb.2.1
      have ykb := kb.1
      have zkb := kb.2.2
      go_wp2
      vret
      exact ⟨⟨_, rfl⟩, SR1.out, BB.out⟩
    · have hd3 : (d != 2) = true := by simpa using hd2
      have hRR : R = ⟨s.o, s.t, false⟩ := by rw [← hR2, if_pos (by simp only [Bool.or_eq_true, Bool.and_eq_true, decide_eq_true_eq]; exact .inr ⟨trivial, hd2⟩)]
      subst hRR
      clear hR2 HG
      have ckb := kb.2.1
      have ykb := kb.1
      have zkb := kb.2.2
      go_wp2
      vret
      exact ⟨⟨_, rfl⟩, NO.out.1, BB.out.trans NO.out.2⟩
  by_cases h21 : c = 21
  · subst h21
    have hRR : R = allS s (d - T + P) ([]) := by rw [← hR2, if_neg (by simp only [Bool.or_eq_true, Bool.and_eq_true, decide_eq_true_eq]; omega)]; rfl
    subst hRR
    clear hR2 NO nc2 nf2 ngl
    have ckb := kb.2.1
    have ykb := kb.1
    have zkb := kb.2.2
    go_wp2
    vret
    exact ⟨⟨_, rfl⟩, SR1.out, BB.out⟩
  by_cases h19 : c = 19
  · subst h19
    obtain ⟨nn, rfl⟩ : ∃ nn : Nat, n = nn := ⟨n.toNat, by have := hf n (by simp [folS]); omega⟩
    have hRR : R = allS s (d - T + P) ([(nn : Int)]) := by rw [← hR2, if_neg (by simp only [Bool.or_eq_true, Bool.and_eq_true, decide_eq_true_eq]; omega)]; rfl
    subst hRR
    clear hR2 NO nc2 nf2 ngl
    have ckb := kb.2.1
    have ykb := kb.1
    have zkb := kb.2.2
    go_wp2_with fail
    refine ((HG.out s nn _ SR1.out (by omega)).mono ?_)
    rintro e w2 ⟨⟨v2, rfl⟩, sr2, b2⟩
    have S2 := Lib.hid sr2
    have B2 := Lib.hid (BB.out.trans b2)
    clear sr2 b2
    go_wp2
    vret
    exact ⟨⟨_, rfl⟩, S2.out, B2.out⟩
  by_cases h18 : c = 18
  · subst h18
    obtain ⟨nn, rfl⟩ : ∃ nn : Nat, n = nn := ⟨n.toNat, by have := hf n (by simp [folS]); omega⟩
    have hRR : R = allS s (d - T + P) ([(nn : Int), (p : Int) + 1]) := by rw [← hR2, if_neg (by simp only [Bool.or_eq_true, Bool.and_eq_true, decide_eq_true_eq]; omega)]; rfl
    subst hRR
    clear hR2 NO nc2 nf2 ngl
    have ckb := kb.2.1
    have ykb := kb.1
    have zkb := kb.2.2
    go_wp2_with fail
    refine ((HG.out s nn _ SR1.out (by omega)).mono ?_)
    rintro e w2 ⟨⟨v2, rfl⟩, sr2, b2⟩
    have S2 := Lib.hid sr2
    have B2 := Lib.hid (BB.out.trans b2)
    clear sr2 b2
    go_wp2_with fail
    refine ((HG.out (goS s (nn : Nat) (d - T + P)) (p + 1) _ S2.out (Nat.le_trans (go_len _ _ _).2 (by omega))).mono ?_)
    rintro e w3 ⟨⟨v3, rfl⟩, sr3, b3⟩
    have S3 := Lib.hid sr3
    have B3 := Lib.hid (B2.out.trans b3)
    clear sr3 b3
    go_wp2
    vret
    exact ⟨⟨_, rfl⟩, S3.out, B3.out⟩
  by_cases h10 : c = 10
  · subst h10
    obtain ⟨mm, rfl⟩ : ∃ mm : Nat, m = mm := ⟨m.toNat, by have := hf m (by simp [folS]); omega⟩
    have hRR : R = allS s (d - T + P) ([(mm : Int), (p : Int) + 1]) := by rw [← hR2, if_neg (by simp only [Bool.or_eq_true, Bool.and_eq_true, decide_eq_true_eq]; omega)]; rfl
    subst hRR
    clear hR2 NO nc2 nf2 ngl
    have ckb := kb.2.1
    have ykb := kb.1
    have zkb := kb.2.2
    go_wp2_with fail
    refine ((HG.out s mm _ SR1.out (by omega)).mono ?_)
    rintro e w2 ⟨⟨v2, rfl⟩, sr2, b2⟩
    have S2 := Lib.hid sr2
    have B2 := Lib.hid (BB.out.trans b2)
    clear sr2 b2
    go_wp2_with fail
    refine ((HG.out (goS s (mm : Nat) (d - T + P)) (p + 1) _ S2.out (Nat.le_trans (go_len _ _ _).2 (by omega))).mono ?_)
    rintro e w3 ⟨⟨v3, rfl⟩, sr3, b3⟩
    have S3 := Lib.hid sr3
    have B3 := Lib.hid (B2.out.trans b3)
    clear sr3 b3
    go_wp2
    vret
    exact ⟨⟨_, rfl⟩, S3.out, B3.out⟩
  by_cases h11 : c = 11
  · subst h11
    obtain ⟨mm, rfl⟩ : ∃ mm : Nat, m = mm := ⟨m.toNat, by have := hf m (by simp [folS]); omega⟩
    have hRR : R = allS s (d - T + P) ([(mm : Int), (p : Int) + 1]) := by rw [← hR2, if_neg (by simp only [Bool.or_eq_true, Bool.and_eq_true, decide_eq_true_eq]; omega)]; rfl
    subst hRR
    clear hR2 NO nc2 nf2 ngl
    have ckb := kb.2.1
    have ykb := kb.1
    have zkb := kb.2.2
    go_wp2_with fail
    refine ((HG.out s mm _ SR1.out (by omega)).mono ?_)
    rintro e w2 ⟨⟨v2, rfl⟩, sr2, b2⟩
    have S2 := Lib.hid sr2
    have B2 := Lib.hid (BB.out.trans b2)
    clear sr2 b2
    go_wp2_with fail
    refine ((HG.out (goS s (mm : Nat) (d - T + P)) (p + 1) _ S2.out (Nat.le_trans (go_len _ _ _).2 (by omega))).mono ?_)
    rintro e w3 ⟨⟨v3, rfl⟩, sr3, b3⟩
    have S3 := Lib.hid sr3
    have B3 := Lib.hid (B2.out.trans b3)
    clear sr3 b3
    go_wp2
    vret
    exact ⟨⟨_, rfl⟩, S3.out, B3.out⟩
  have hRR : R = allS s (d - T + P) ([(p : Int) + 1]) := by rw [← hR2, if_neg (by simp only [Bool.or_eq_true, Bool.and_eq_true, decide_eq_true_eq]; omega)]; unfold folS; rw [if_neg (by dsimp only; omega), if_neg (by dsimp only; omega), if_neg (by dsimp only; omega), if_neg (by dsimp only; omega)]
  subst hRR
  clear hR2 NO nc2 nf2 ngl
  have ckb := kb.2.1
  have ykb := kb.1
  have zkb := kb.2.2
  go_wp2_with fail
  refine ((HG.out s (p + 1) _ SR1.out (by omega)).mono ?_)
  rintro e w2 ⟨⟨v2, rfl⟩, sr2, b2⟩
  have S2 := Lib.hid sr2
  have B2 := Lib.hid (BB.out.trans b2)
  clear sr2 b2
  go_wp2
  vret
  exact ⟨⟨_, rfl⟩, S2.out, B2.out⟩

end Go.Proofs.Ytlkdlcpfcacigaa

/- Depths of the reference. -/
namespace Go.Proofs.Ytlkdlcpfcacigaa
open Go.RowKit
set_option linter.unusedVariables false
set_option linter.unusedSimpArgs false

def SpSt (os : List O3) (r : Option (List Int)) (base g : Nat) (w : World) (n : Nat) : Prop := ∃ s : DS, SR base g w s ∧ ((s.k = true ∧ dRun folS os n s.o s.t = some r) ∨ (s.k = false ∧ r = none))
theorem SpSt.step {os : List O3} {r : Option (List Int)} {base g : Nat} {w : World} (h : ∃ n, SpSt os r base g w n) :
    ∃ o t k, SR base g w ⟨o, t, k⟩ ∧ ((k = false ∧ r = none) ∨ (k = true ∧ ∃ m, leastP (SpSt os r base g w) = m + 1 ∧ dRun folS os (m + 1) o t = some r)) := by
  obtain ⟨⟨o, t, k⟩, h1, h2⟩ := leastP_is h
  refine ⟨o, t, k, h1, ?_⟩
  rcases h2 with ⟨hk, h2⟩ | h2
  · refine .inr ⟨hk, ?_⟩
    cases hn : leastP (SpSt os r base g w) with
    | zero => rw [hn] at h2; cases h2
    | succ m => rw [hn] at h2; exact ⟨m, rfl, h2⟩
  · exact .inl h2
theorem go_first (os : List O3) (h : 0 < os.length) : goS ⟨List.replicate os.length (-1), [], true⟩ ((0 : Nat) : Int) 1 = ⟨dFirst os, [0], true⟩ := by
  have hl : (List.replicate os.length (-1 : Int)).length = os.length := List.length_replicate
  unfold goS
  dsimp only
  rw [if_neg (by rw [hl]; omega), Int.toNat_natCast, List.getD_eq_getElem?_getD, List.getElem?_replicate, if_pos h]
  rw [if_pos (by decide)]
  rfl

theorem ret_tup {a b : Bool} {v : Value} (h : a = b) : Ending.returned (.tuple #[v, .bool a]) = .returned (.tuple #[v, .bool b]) := by rw [h]
theorem apart_of {g : Nat} {dv tv : Value} (n1 : ∀ i, dv.ownBlock = some i → i ≠ g ∧ tv.ownBlock ≠ some i) : tv.ownBlock = none ∨ tv.ownBlock ≠ dv.ownBlock := by
  cases h : tv.ownBlock with
  | none => exact .inl rfl
  | some i => exact .inr (fun e => (n1 i e.symm).2 h)

set_option maxHeartbeats 8000000 in
set_option maxRecDepth 100000 in
theorem sDepths_ok {B : Nat} (fv : Value) (fs : List F2) (f : Nat) (w : World) (hr : RdF B w fv fs) (hin : ∀ x ∈ fs, fnIn x) (hfl : f < fs.length) (hok : funsOk fs = true) :
    Calls Try.prog 37 #[fv, .int .i64 f] w fun e w' => (∃ v, e = .returned (.tuple #[v, .bool (okB fol (fs.getD f fn0).os)])) ∧ Below w.heap.size w w' := by
  obtain ⟨i0, hi, hz0, hz1, hz2⟩ := info_parts Try.infoI2
  obtain ⟨hp1, hp2⟩ := fn_parts hok
  obtain ⟨hc, hop⟩ := fn_code hok hfl
  have hfin := hc.fin
  obtain ⟨r, hd, hrr⟩ := okB_run hc (fl := folS) folS_mem
  rw [okB_same hc folS_mem] at hrr
  rw [hrr]
  have h0 : 0 < (fs.getD f fn0).os.length := (hp2 f hfl).1.2.1
  have hN : (fs.getD f fn0).os.length ≤ 3000 := (hp2 f hfl).1.2.2
  have hfn := hp1.2
  clear hrr hc hp1 hp2
  obtain ⟨os, hos⟩ : ∃ os, (fs.getD f fn0).os = os := ⟨_, rfl⟩
  rw [hos] at h0 hN hd hop hfin
  have HF := Lib.hid (by have := sFunsOk_any fv fs w hr hin (by omega); rw [hok] at this; exact this : Calls Try.prog 38 #[fv] w fun e w' => e = .returned (.bool true) ∧ Below w.heap.size w w')
  have e1 : IntKind.i64.wrap ((fs.length : Int) - 1) = (fs.length : Int) - 1 := IntWalk.i64_in _ (by omega)
  have HI := Lib.hid (fun (W : World) => (by have := l1In_any (f : Int) 0 ((fs.length : Int) - 1) W; rw [show inB (f : Int) 0 ((fs.length : Int) - 1) = true from inB_true.2 (by omega)] at this; exact this : Calls Try.prog 36 #[.int .i64 f, .int .i64 0, .int .i64 ((fs.length : Int) - 1)] W fun e w' => e = .returned (.bool true) ∧ W = w'))
  obtain ⟨fb, foff, fcap, lv, hfv, hfb0, hfb, _, _, cf1, ro⟩ := (hr.below' (Below.refl w.heap.size w)).at_ hfl
  subst hfv
  rw [fs_getD hfl] at hos
  rw [hos] at ro
  obtain ⟨ob, ooff, ocap, hlv, hob0, hob, _, _⟩ := RdE.at_ ro h0
  subst hlv
  have HC := Lib.hid (fun (W : World) (hb : Below w.heap.size w W) => (hb.cell (p := ⟨fb, foff + f * 2 + 1, none⟩) hfb).trans cf1)
  have RO := Lib.hid (fun (W : World) (hb : Below w.heap.size w W) => RdE.below' ro hb)
  obtain ⟨N, hNN⟩ : ∃ N, os.length = N := ⟨_, rfl⟩
  have HN := Lib.hid hNN
  have GF := Lib.hid (go_first os h0)
  rw [hNN] at h0 hN hop HC GF hfin hd
  have HOP := Lib.hid hop
  have HFIN := Lib.hid hfin
  have HD := Lib.hid hd
  have hfi : (f : Int) < (fs.length : Int) := by omega
  clear hr hin hok hos cf1 ro hop hfin hd hob0 hfb0
  go_enter Try.func37, Try.ntmps37
  go_wp2_with fail
  refine HF.out.mono ?_
  rintro e w1 ⟨rfl, b1⟩
  go_wp2_with fail
  refine (HI.out w1).mono ?_
  rintro e w2 ⟨rfl, rfl⟩
  go_wp2_with fail
  generalize hxx : w1.alloc _ = x0
  obtain ⟨bx, k1⟩ := Bx.alloc hxx
  clear hxx
  have z1 := b1.size
  have bb0 : Below w.heap.size w x0 := b1.trans (bx.mono z1)
  have s0 : SR w.heap.size w1.heap.size x0 ⟨List.replicate 0 (-1), [], true⟩ := ⟨bb0.size, z1, .slice none 0 0, .slice none 0 0, k1, ⟨rfl, .inl ⟨rfl, rfl⟩⟩, ⟨rfl, .inl ⟨rfl, rfl⟩⟩, fun i h => (by cases h), fun h => (by cases h)⟩
  generalize w1.heap.size = g at s0 k1 ⊢
  have S0 := Lib.hid s0
  have BB0 := Lib.hid bb0
  clear s0 bb0 bx k1 b1 HF HI z1
  go_loopw [7] (fun i W => ∃ k : Nat, k ≤ N ∧ i = .int .i64 k ∧ SR w.heap.size g W ⟨List.replicate k (-1), [], true⟩ ∧ Below w.heap.size w W) (fun i _ => N - (intOf i).toNat)
  case atStart => exact ⟨0, Nat.zero_le _, rfl, S0.out, BB0.out⟩
  case round =>
    clear S0 BB0
    obtain ⟨k, hk, rfl, hs, hb⟩ := hrel
    have cf := HC.out wr hb
    by_cases hlt : k < N
    · have hki : (k : Int) < (N : Int) := by omega
      obtain ⟨hbz, hg, dv, tv, k1, o1, o2, n1, n2⟩ := hs
      obtain ⟨da, dc, rfl⟩ := own_form o1
      obtain ⟨ta, tc, rfl⟩ := own_form o2
      have c0 : wr.cell? ⟨g, 0, none⟩ = some (.slice da (List.replicate k (-1 : Int)).length dc) := k1.2.1 0
      have hgl := k1.1
      have hdne : (Value.slice da (List.replicate k (-1 : Int)).length dc).ownBlock ≠ some g := fun e => (n1 _ e).1 rfl
      obtain ⟨kk, hkk⟩ : ∃ kk, (List.replicate k (-1 : Int)).length = kk := ⟨_, rfl⟩
      have hkk2 : kk = k := by rw [← hkk, List.length_replicate]
      subst hkk2
      rw [hkk] at c0 o1 hdne k1 n1
      have OW := Lib.hid o1
      have OT := Lib.hid o2
      have K1 := Lib.hid k1
      have NN := Lib.hid n1
      have N2 := Lib.hid n2
      have BB := Lib.hid hb
      clear o1 o2 k1 n1 n2 hb hkk
      go_wp2_with (at_builtin; refine wpList_app1_at rfl _ _ 25 rfl w.heap.size 3 i0 (.int .i64 0) 1 8 Try.underlying25 hi hz0 hz1 hz2 rfl (by decide) _ _ _ rfl OW.out #[_] rfl ?_ wr.heap.size rfl rfl ?_ ?_ ?_ ?_)
      · rfl
      · unfold maxLen; omega
      · omega
      · intro v' w4 ho4 hg4 hat4
        obtain ⟨va, vc, hv'⟩ := own_form ho4
        subst hv'
        obtain ⟨v', hv'⟩ : ∃ v', Value.slice va (kk + 1) vc = v' := ⟨_, rfl⟩
        rw [hv'] at ho4 hat4
        have k3 := K1.out.grown hg4 (fun e => hdne e.symm)
        have z4 := hg4.size
        have j2 : w4.ownsRow w.heap.size 3 1 v' (List.replicate (kk + 1) (-1 : Int)).length ((List.replicate (kk + 1) (-1 : Int)).map (Value.int .i64)) := by
          have e : (List.replicate (kk + 1) (-1 : Int)).map (Value.int .i64) = (List.replicate kk (-1 : Int)).map (Value.int .i64) ++ [Value.int .i64 (-1)] := by rw [List.replicate_succ', List.map_append]; rfl
          rw [e, List.length_replicate, List.map_replicate]
          exact ho4
        have j1 := OT.out.kept hg4 (apart_of NN.out)
        have B5 := BB.out.trans (Below.of_grown hg4 hbz (fun k hk => (OW.out.lt k hk).1))
        have n3 : ∀ i, v'.ownBlock = some i → i ≠ g ∧ (Value.slice ta ([] : List Int).length tc).ownBlock ≠ some i := fun i hi' => by
          rcases hat4 with h | h
          · exact NN.out i (h.symm.trans hi')
          · have hii : wr.heap.size + 1 = i := Option.some.inj (h.symm.trans hi')
            exact ⟨by omega, fun e => by have := own_lt OT.out i e; omega⟩
        have g1 : w4.cell? ⟨g, 0, none⟩ = some _ := k3.2.1 0
        have g1f := k3.2.2 0
        have g2 := k3.1
        have hv'g : v'.ownBlock ≠ some g := fun e => (n3 g e).1 rfl
        have fin : SR w.heap.size g (w4.setCell ⟨g, 0, none⟩ v') ⟨List.replicate (kk + 1) (-1), [], true⟩ := by
          refine ⟨?_, hg, v', .slice ta ([] : List Int).length tc, ?_, set_far j2 hv'g, set_far j1 N2.out, n3, N2.out⟩
          · have := B5.size; simp; omega
          · have := k3.set 0 (by simp) v'
            simpa using this
        have FIN := Lib.hid (And.intro fin (B5.setCell (p := ⟨g, 0, none⟩) hg v'))
        rw [← hv'] at FIN
        clear hv' k3 j1 j2 n3 B5 fin ho4 hg4 hat4 OT OW K1 NN N2 BB hv'g hdne c0 cf
        go_wp2
        go_roundw
        case rel => exact ⟨kk + 1, hlt, by go_num, FIN.out.1, FIN.out.2⟩
        case measure => simp [intOf]; omega
    · have hkN : k = N := by omega
      have hki : ¬ (k : Int) < (N : Int) := by omega
      rw [hkN] at hs hki ⊢
      clear hlt hk hkN
      have hbz := hb.size
      have HG0 := Lib.hid (show Calls Try.prog 52 #[.pointer (some ⟨g, 0, none⟩), .int .i64 0, .int .i64 1] wr fun e w' => (∃ v, e = .returned v) ∧ SR w.heap.size g w' ⟨dFirst os, [0], true⟩ ∧ Below w.heap.size wr w' by have := l15Go_any 0 1 wr hs (by omega) (Nat.zero_le _); rw [GF.out] at this; exact this)
      have HB := Lib.hid hb
      clear hs hb
      go_wp2_with fail
      refine HG0.out.mono ?_
      rintro e w5 ⟨⟨v5, rfl⟩, s5, b5⟩
      have hS : SpSt os r w.heap.size g w5 (N + 1) := ⟨_, s5, .inl ⟨rfl, HD.out⟩⟩
      have HSt := Lib.hid hS
      have B5 := Lib.hid (HB.out.trans b5)
      clear hS s5 b5 HB HG0 cf hki
      go_wp2_with fail
      go_loopw [] (fun W => (∃ n, SpSt os r w.heap.size g W n) ∧ Below w.heap.size w W) (fun W => leastP (SpSt os r w.heap.size g W))
      case atStart => exact ⟨⟨_, HSt.out⟩, B5.out⟩
      case round =>
        clear HSt B5 HD
        obtain ⟨hex, hb⟩ := hrel
        obtain ⟨o, t, k, hs, hcase⟩ := SpSt.step hex
        clear hex
        have HS := Lib.hid hs
        obtain ⟨hbz, hg, dv, tv, k1, o1, o2, n1, n2⟩ := hs
        dsimp only at k1 o1 o2
        obtain ⟨da, dc, rfl⟩ := own_form o1
        obtain ⟨ta, tc, rfl⟩ := own_form o2
        have c0 : wr.cell? ⟨g, 0, none⟩ = some (.slice da o.length dc) := k1.2.1 0
        have c1 : wr.cell? ⟨g, 1, none⟩ = some (.slice ta t.length tc) := k1.2.1 1
        have c2 : wr.cell? ⟨g, 2, none⟩ = some (.bool k) := k1.2.1 2
        have hgl := k1.1
        have cf := HC.out wr hb
        have BB := Lib.hid hb
        rcases hcase with ⟨rfl, hrn⟩ | ⟨rfl, m, hm, hrun⟩
        · have HRES := Lib.hid (show r.isSome = false by rw [hrn]; rfl)
          clear o1 o2 n1 n2 k1 hb hrn HS c0 cf
          go_wp2
          go_ret2
          exact ⟨⟨_, ret_tup HRES.out.symm⟩, BB.out.alloc BB.out.size _⟩
        unfold dRun at hrun
        by_cases ht0 : t.length = 0
        · rw [if_pos ht0] at hrun
          have HRES := Lib.hid (show r.isSome = true by rw [← Option.some.inj hrun]; rfl)
          have h01 : ¬ (t.length : Int) > (0 : Int) := by omega
          clear o1 o2 n1 n2 k1 hb hrun HS cf hm
          go_wp2
          go_ret2
          exact ⟨⟨_, ret_tup HRES.out.symm⟩, BB.out⟩
        rw [if_neg ht0] at hrun
        have ht1 : (t.length : Int) > (0 : Int) := by omega
        cases hdk : dOk os o t
        · rw [hdk] at hrun; simp at hrun
        rw [hdk, if_pos rfl] at hrun
        unfold dOk at hdk
        simp only [Bool.and_eq_true, decide_eq_true_eq] at hdk
        obtain ⟨⟨⟨d1, d2⟩, d3⟩, ⟨d4, d5⟩, d6, d7⟩ := hdk
        obtain ⟨a, ha⟩ : ∃ a : Nat, topT t = a := ⟨(topT t).toNat, by omega⟩
        rw [ha] at d4 d5 d6 d7 hrun
        rw [Int.toNat_natCast] at d6 d7 hrun
        obtain ⟨d, hdd⟩ : ∃ d, o.getD a 0 = d := ⟨_, rfl⟩
        rw [hdd] at d6 d7 hrun
        have hNa : a < N := by rw [HN.out] at d5; omega
        obtain ⟨kt, hkt⟩ : ∃ kt, t.length = kt + 1 := ⟨t.length - 1, by omega⟩
        obtain ⟨tg, rfl, ct⟩ := own_cell_any o2 kt (by omega)
        have hta : t[kt]'(by omega) = (a : Int) := by
          have h1 : t.getD (t.length - 1) 0 = (a : Int) := ha
          rw [show t.length - 1 = kt by omega, List.getD_eq_getElem?_getD, List.getElem?_eq_getElem (by omega)] at h1
          exact h1
        rw [List.getElem?_map, List.getElem?_eq_getElem (by omega), Option.map_some, hta] at ct
        have hcap := own_cap o2
        have e3 : IntKind.i64.wrap ((t.length : Int) - 1) = (kt : Int) := by rw [IntWalk.i64_in _ (by omega)]; omega
        have hkc : (kt : Int) ≤ (tc : Int) := by omega
        have hk0 : (0 : Int) ≤ (kt : Int) := by omega
        have hkl : (kt : Int) < (t.length : Int) := by omega
        have htgl : tg < wr.heap.size := (o2.lt _ rfl).2
        have HM := Lib.hid hm
        have HRUN := Lib.hid hrun
        have HKT := Lib.hid hkt
        have HDD := Lib.hid hdd
        have HB3 := Lib.hid (And.intro (And.intro d1 d3) (And.intro d6 d7))
        have HHA := Lib.hid ha
        have O2 := Lib.hid o2
        clear hm hrun hkt hdd d1 d2 d3 d4 d5 d6 d7 hta ha o1 o2 n1 n2 k1 hb
        go_wp2_with fail
        go_quiet (fail)
        have bq0 : Below wr.heap.size wr (wr.drewN nq) := below_drewN (Below.refl _ _) nq
        generalize hx : wr.drewN nq = W1 at bq0 ⊢
        have c1w := (bq0.cell (p := ⟨g, 1, none⟩) hgl).trans c1
        clear hx c0 c1 c2 ct
        have hglW : g < W1.heap.size := Nat.lt_of_lt_of_le hgl bq0.size
        have BQ := Lib.hid bq0
        clear bq0
        have c1 := c1w
        clear c1w hgl
        go_wp2_with fail
        refine wp_region_tail_drew 14 (S := (fun w' => w'.cell? ⟨g, 1, none⟩ = some (.slice (some ⟨tg, 0, none⟩) t.length tc))) (by kernel_rfl) (by kernel_rfl) (by first | (dsimp only; exact c1) | (exact c1)) (fun hHeld => ?_)
        refine tkT (i := 0) ?_
        refine tkT (i := 2) ?_
        refine tkT (i := 3) ?_
        refine tkT (i := 4) ?_
        refine tkT (i := 5) ?_
        refine tkT (i := 6) ?_
        refine tkT (i := 7) ?_
        refine tkT (i := 8) ?_
        refine tkT (i := 9) ?_
        refine tkT (i := 10) ?_
        refine tkT (i := 11) ?_
        refine tkT (i := 12) ?_
        generalize hxd : W1.drew = x1 at hHeld
        have hd1 : Below W1.heap.size W1 x1 := by rw [← hxd]; exact (Below.refl _ _).drew
        have hbq : Below wr.heap.size wr x1 := BQ.out.trans (hd1.mono BQ.out.size)
        have hgl1 : g < x1.heap.size := Nat.lt_of_lt_of_le hglW hd1.size
        have c1x : x1.cell? ⟨g, 1, none⟩ = some (.slice (some ⟨tg, 0, none⟩) t.length tc) := hHeld
        clear hxd hd1 hglW BQ
        refine rdT (i := 1) (fun K hK => ?_)
        go_simp
        generalize hy : x1.alloc _ = x2
        have hnew : x2.heap[x1.heap.size]? = some (.cells #[] 3 (0, 0)) := by rw [← hy]; exact heap_alloc_new x1 _
        have hb2 : Below x1.heap.size x1 x2 := by rw [← hy]; exact (Below.refl _ _).alloc (Nat.le_refl _) _
        clear hy
        refine bkT hK (by first | (dsimp only; exact (hb2.cell (by dsimp only; exact hgl1)).trans hHeld) | (exact (hb2.cell (by dsimp only; exact hgl1)).trans hHeld)) (fun hHeld => ?_)
        clear hK K
        refine wpAnyT_ready (rs := [13]) (by kernel_rfl) (by simp) ?_
        refine AllReadyT.cons (by (simp only [List.getElem?_toArray, List.getElem?_cons_succ, List.getElem?_cons_zero]; rfl)) (fun K hK => ?_) AllReadyT.nil
        rw [if_pos (by rfl)]
        have S1 := HS.out.below hbq
        obtain ⟨hbz1, hg1, dv1, tv1, k1, o1, o2, n1, n2⟩ := S1
        dsimp only at k1 o1 o2
        have hb2s := hb2.size
        have l1 := own_lt o1
        have l2 := own_lt o2
        have OT2 := own_below (own_below O2.out hbq (own_lt O2.out)) hb2 (own_lt (own_below O2.out hbq (own_lt O2.out)))
        have htk := own_take OT2 (k := kt) (by have := HKT.out; omega)
        rw [Nat.mul_one, ← List.map_take, show t.take kt = t.dropLast by rw [List.dropLast_eq_take, HKT.out, Nat.add_sub_cancel]] at htk
        have hdl : t.dropLast.length = kt := by rw [List.length_dropLast, HKT.out, Nat.add_sub_cancel]
        have hrd : Rd x2.heap.size .i64 x2 (.slice (some ⟨tg, 0, none⟩) kt tc) t.dropLast := by
          have := htk
          rw [show kt = t.dropLast.length from hdl.symm] at this ⊢
          exact Rd.of_own this
        have BBq := Lib.hid (BB.out.trans (hbq.mono BB.out.size))
        have hwx : w.heap.size ≤ x1.heap.size := BBq.out.size
        refine wp_copy_rd x2 _ _ 25 rfl x1.heap.size 3 i0 (.int .i64 0) 8 Try.underlying25 hi hz0 hz1 hz2 rfl x1.heap.size rfl hnew (Nat.le_refl _) (some ⟨tg, 0, none⟩) kt tc t.dropLast rfl hrd (by have := HB3.out.1.2; have := HKT.out; omega) (by decide) ?_
        intro v' w4 ho4 hg4
        obtain ⟨va, vc, hv'⟩ := own_form ho4
        subst hv'
        obtain ⟨v', hv'⟩ : ∃ v', Value.slice va t.dropLast.length vc = v' := ⟨_, rfl⟩
        rw [hv'] at ho4
        have hv'b : ∀ i, v'.ownBlock = some i → x1.heap.size ≤ i := fun i hi' => (ho4.lt i hi').1
        have k4 := (k1.below hb2 k1.1).grown hg4 (fun e => by have := Option.some.inj e; omega)
        have p1 := (own_below o1 hb2 l1).kept hg4 (.inr (fun e => by have := l1 _ e; omega))
        have b4 : Below w.heap.size w w4 := BBq.out.trans ((hb2.trans (Below.of_grown hg4 hb2s (fun k hk => by have := Option.some.inj hk; omega))).mono hwx)
        have hv'g : v'.ownBlock ≠ some g := fun e => by have := hv'b g e; omega
        have fin : SR w.heap.size g (w4.setCell ⟨g, 1, none⟩ v') ⟨o, t.dropLast, true⟩ := by
          refine ⟨?_, hg1, dv1, v', ?_, set_far p1 (fun e => (n1 g e).1 rfl), set_far (own_base ho4 hwx) hv'g, fun i hi' => ⟨(n1 i hi').1, fun e => by have := hv'b i e; have := l1 i hi'; omega⟩, hv'g⟩
          · have := b4.size; simp; omega
          · have := k4.set 1 (by simp) v'
            simpa using this
        have FIN := Lib.hid (And.intro fin (b4.setCell (p := ⟨g, 1, none⟩) hg1 v'))
        rw [← hv', hdl] at FIN
        have cf4 := HC.out w4 b4
        have cf5 := HC.out _ FIN.out.2
        have hgne : g ≠ fb := by omega
        have hgne2 : fb ≠ g := by omega
        have hk1c : w4.cell? ⟨g, 1, none⟩ = some (.slice (some ⟨tg, 0, none⟩) t.length tc) := (k4.2.1 1).trans ((k1.2.1 1).symm.trans c1x)
        have f4 := k4.2.2 1
        have y4 := k4.1
        clear hv' k4 p1 b4 fin ho4 hg4 hv'b hv'g htk hrd OT2 l1 l2 n1 n2 o1 o2 k1 hnew hb2 hb2s hbq
        refine hK.out _ _ (by first | (dsimp only; exact hk1c) | exact hk1c) (fun hHeld => ?_)
        clear hK K
        try simp only [Act.put, List.setIfInBounds_toArray, List.set_cons_zero, List.set_cons_succ]
        refine wpAnyT_done (by kernel_rfl) ?_
        dsimp only [List.drop]
        have HONE := Lib.hid (fun (W : World) (hs : SR w.heap.size g W ⟨o, t.dropLast, true⟩) (hbW : Below w.heap.size w W) => (by
          obtain ⟨ob', ooff', ocap', hlv, _, hobW, _, ocells⟩ := RdE.at_ (RO.out W hbW) (show a < os.length by rw [HN.out]; exact hNa)
          cases hlv
          obtain ⟨p1, p2, p3⟩ := HOP.out a hNa
          obtain ⟨q, hq⟩ : ∃ q, opT os (a : Int) = q := ⟨_, rfl⟩
          have hfl2 : ∀ x ∈ folS q a, 0 ≤ x ∧ x < (o.length : Int) := fun x hx => by
            have := HFIN.out a hNa x (by rw [hq]; exact (folS_mem _ _ _).1 hx)
            have := HB3.out.1.1
            have := HN.out
            omega
          rw [show os[a]'(by rw [HN.out]; exact hNa) = q by rw [← hq]; unfold opT; rw [Int.toNat_natCast, List.getD_eq_getElem?_getD, List.getElem?_eq_getElem (by rw [HN.out]; exact hNa)]; rfl] at ocells
          have e0 : opT os (a : Int) = ⟨q.c, q.n, q.m⟩ := hq
          rw [hq] at p1 p2 p3
          have := l15One_any (s := ⟨o, t.dropLast, true⟩) a ob ooff ocap N q.c q.n q.m d W hs hNa hobW (ocells 0 (by decide)) (ocells 1 (by decide)) (ocells 2 (by decide)) p1 p2 p3 (by dsimp only; have := HB3.out.1.1; have := HN.out; omega) HDD.out HB3.out.2 hN (by dsimp only; rw [hdl]; have := HB3.out.1.2; have := HKT.out; omega) (fun x hx => (hfl2 x hx).1)
          rw [← e0] at this
          exact this : Calls Try.prog 53 #[.pointer (some ⟨g, 0, none⟩), .slice (some ⟨ob, ooff, none⟩) N ocap, .int .i64 a] W fun e w' => (∃ v, e = .returned v) ∧ SR w.heap.size g w' (oneS (opT os (a : Int)) ⟨o, t.dropLast, true⟩ a d) ∧ Below w.heap.size W w'))
        go_wp2_with fail
        refine (HONE.out _ FIN.out.1 FIN.out.2).mono ?_
        rintro e w6 ⟨⟨v6, rfl⟩, s6, b6⟩
        have B6 := Lib.hid (FIN.out.2.trans b6)
        have hone := one_in (os := os) (p := (a : Int)) (out := o) (todo := t.dropLast) (d := d) HB3.out.2.2 (fun x hx => by
            have := HFIN.out a hNa x ((folS_mem _ _ _).1 hx)
            have := HB3.out.1.1
            have := HN.out
            omega)
        have hnext : SpSt os r w.heap.size g w6 m := by
          have hrun := HRUN.out
          cases hab : aftB (opT os (a : Int)) d
          · rw [hab, if_neg (by simp)] at hrun hone
            rcases hone with ⟨o', t', h1, h2⟩ | ⟨h1, h2⟩
            · rw [h1] at hrun
              rw [h2] at s6
              exact ⟨_, s6, .inl ⟨rfl, hrun⟩⟩
            · rw [h1] at hrun
              exact ⟨_, s6, .inr ⟨h2, (Option.some.inj hrun).symm⟩⟩
          · rw [hab, if_pos rfl] at hrun hone
            exact ⟨_, s6, .inr ⟨hone, (Option.some.inj hrun).symm⟩⟩
        have NX := Lib.hid hnext
        clear hnext hone s6 b6 HONE FIN cf4 cf5
        go_wp2
        go_roundw
        case rel => exact ⟨⟨m, NX.out⟩, B6.out⟩
        case measure =>
          rw [HM.out]
          exact Nat.lt_succ_of_le (leastP_le NX.out)

end Go.Proofs.Ytlkdlcpfcacigaa

/- Verify of the reference. -/
namespace Go.Proofs.Ytlkdlcpfcacigaa
open Go.RowKit
set_option linter.unusedVariables false
set_option linter.unusedSimpArgs false

set_option maxRecDepth 100000 in
theorem sDepths_no {B : Nat} (fv : Value) (fs : List F2) (f : Int) (w : World) (hr : RdF B w fv fs) (hin : ∀ x ∈ fs, fnIn x) (hlen : fs.length ≤ 4294967296) (hok : funsOk fs = false) :
    Calls Try.prog 37 #[fv, .int .i64 f] w fun e w' => (∃ v, e = .returned (.tuple #[v, .bool false])) ∧ Below w.heap.size w w' := by
  have HF := Lib.hid (by have := sFunsOk_any fv fs w hr hin hlen; rw [hok] at this; exact this : Calls Try.prog 38 #[fv] w fun e w' => e = .returned (.bool false) ∧ Below w.heap.size w w')
  clear hr
  go_enter Try.func37, Try.ntmps37
  go_wp2_with fail
  refine HF.out.mono ?_
  rintro e w1 ⟨rfl, b1⟩
  go_wp2
  go_ret2
  exact ⟨⟨_, rfl⟩, b1.alloc b1.size _⟩

set_option maxHeartbeats 1600000 in
set_option maxRecDepth 100000 in
theorem sVerify_any {B : Nat} (fv : Value) (fs : List F2) (w : World) (hr : RdF B w fv fs) (hin : ∀ x ∈ fs, fnIn x) (hlen : fs.length ≤ 4294967296) :
    Calls Try.prog 15 #[fv] w fun e w' => e = .returned (.bool (verB fs)) ∧ Below w.heap.size w w' := by
  have HD := Lib.hid (show ∀ (i : Nat) (W : World), i < fs.length → Below w.heap.size w W → Calls Try.prog 37 #[fv, .int .i64 i] W fun e w' => ∃ v b, e = .returned (.tuple #[v, .bool b]) ∧ (b = false → verB fs = false) ∧ (b = true → funsOk fs = true ∧ okB fol (fs.getD i fn0).os = true) ∧ Below w.heap.size w w' from fun i W hi hb => by
    cases hok : funsOk fs
    · refine (sDepths_no fv fs i W (hr.below' hb) hin hlen hok).mono ?_
      rintro e w' ⟨⟨v, rfl⟩, b1⟩
      exact ⟨_, false, rfl, fun _ => verB_no hok, (fun h => by cases h), hb.trans (b1.mono hb.size)⟩
    · refine (sDepths_ok fv fs i W (hr.below' hb) hin hi hok).mono ?_
      rintro e w' ⟨⟨v, rfl⟩, b1⟩
      exact ⟨v, _, rfl, fun h => verB_bad hi h, fun h => ⟨rfl, h⟩, hb.trans (b1.mono hb.size)⟩)
  have HF := Lib.hid (fun (W : World) (hb : Below w.heap.size w W) => sFunsOk_any fv fs W (hr.below' hb) hin hlen)
  obtain ⟨fa, fc, rfl⟩ := hr.form
  obtain ⟨N, hN⟩ : ∃ N, fs.length = N := ⟨_, rfl⟩
  have HN := Lib.hid hN
  rw [hN] at hlen HD HF ⊢
  clear hr hin hN
  go_enter Try.func15, Try.ntmps15
  go_wp2
  go_loopw [3] (fun i W => ∃ k : Nat, k ≤ N ∧ i = .int .i64 k ∧ (∀ j, j < k → okB fol (fs.getD j fn0).os = true) ∧ Below w.heap.size w W) (fun i _ => N - (intOf i).toNat)
  case atStart => exact ⟨0, Nat.zero_le _, rfl, fun j hj => absurd hj (Nat.not_lt_zero _), Below.refl _ _⟩
  case round =>
    obtain ⟨k, hk, rfl, hall, hb⟩ := hrel
    by_cases hlt : k < N
    · have hki : (k : Int) < (N : Int) := by omega
      go_wp2_with fail
      refine (HD.out k wr hlt hb).mono ?_
      rintro e w2 ⟨v, b, rfl, h1, h2, b2⟩
      cases b
      · have h3 := Lib.hid (h1 rfl)
        clear h1 h2
        go_wp2
        go_ret
        exact ⟨ret_bool h3.out.symm, b2⟩
      · obtain ⟨h3, h4⟩ := h2 rfl
        have hall2 := Lib.hid (show ∀ j, j < k + 1 → okB fol (fs.getD j fn0).os = true from fun j hj => by rcases Nat.lt_succ_iff_lt_or_eq.1 hj with h | rfl; (· exact hall j h); exact h4)
        have B2 := Lib.hid b2
        clear h1 h2 h3 h4 hall b2 hb
        go_wp2
        go_roundw
        case rel => exact ⟨k + 1, hlt, by go_num, hall2.out, B2.out⟩
        case measure => simp [intOf]; omega
    · have hkN : k = N := by omega
      subst hkN
      have hki : ¬ (k : Int) < (k : Int) := by omega
      go_wp2_with fail
      refine (HF.out wr hb).mono ?_
      rintro e w2 ⟨rfl, b2⟩
      have hv : funsOk fs = verB fs := by
        cases hok : funsOk fs
        · exact (verB_no hok).symm
        · exact (verB_yes hok (fun i hi => hall i (by rw [HN.out] at hi; exact hi))).symm
      have b3 := hb.trans (b2.mono hb.size)
      have HV := Lib.hid hv
      clear hv hall
      go_wp2
      go_ret
      exact ⟨ret_bool HV.out, b3⟩

end Go.Proofs.Ytlkdlcpfcacigaa
