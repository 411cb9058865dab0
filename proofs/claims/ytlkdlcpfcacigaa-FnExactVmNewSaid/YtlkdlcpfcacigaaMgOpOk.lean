import Derived.Test.YtlkdlcpfcacigaaMgFunE
import Derived.Test.YtlkdlcpfcacigaaMgFind
import Derived.BigQuiet
import Derived.IntWalk
/- opOk, l13Op: whether a place of a function is right. -/
namespace Go.Proofs.Ytlkdlcpfcacigaa
open Go.RowKit
set_option linter.unusedVariables false
set_option linter.unusedSimpArgs false

def opOk (fs : List F2) (i : Nat) (o : O3) : Bool :=
  let e : Int := ((fs.getD i ⟨0, []⟩).os.length : Int) - 1
  if o.c = 1 then wordB o.n && (o.m == 0)
  else if o.c = 2 then inB o.n 0 2999 && (o.m == 0)
  else if o.c = 3 then inB o.n 0 ((fs.getD i ⟨0, []⟩).f - 1) && (o.m == 0)
  else if o.c = 4 then (decide (0 < (i : Int)) && (o.n == 0)) && (o.m == 0)
  else if o.c = 5 then inB o.n 1 ((fs.length : Int) - 1) && (o.m == (fs.getD o.n.toNat ⟨0, []⟩).f)
  else if o.c = 8 then inB o.n 0 59 && inB o.m 0 20
  else if o.c = 9 then inB o.n 0 59 && (o.m == 0)
  else if o.c = 10 then inB o.n 0 59 && inB o.m 0 e
  else if o.c = 11 then wordB o.n && inB o.m 0 e
  else if o.c = 18 ∨ o.c = 19 then inB o.n 0 e && (o.m == 0)
  else (inB o.c 1 21 && (o.n == 0)) && (o.m == 0)

def opG (len e f g i c n m : Int) : Bool :=
  if c = 1 then wordB n && (m == 0)
  else if c = 2 then inB n 0 2999 && (m == 0)
  else if c = 3 then inB n 0 (f - 1) && (m == 0)
  else if c = 4 then (decide (0 < i) && (n == 0)) && (m == 0)
  else if c = 5 then inB n 1 (len - 1) && (m == g)
  else if c = 8 then inB n 0 59 && inB m 0 20
  else if c = 9 then inB n 0 59 && (m == 0)
  else if c = 10 then inB n 0 59 && inB m 0 (e - 1)
  else if c = 11 then wordB n && inB m 0 (e - 1)
  else if c = 18 ∨ c = 19 then inB n 0 (e - 1) && (m == 0)
  else (inB c 1 21 && (n == 0)) && (m == 0)

theorem l13Tag_any (n : Int) (w : World) :
    Calls Try.prog 66 #[.int .i64 n] w fun e w' => e = .returned (.bool (inB n 0 59)) ∧ w = w' := by
  go_enter Try.func66, Try.ntmps66
  go_wp2_with (go_at_call 36; refine (l1In_any _ _ _ _).mono ?_; rintro e w' ⟨rfl, rfl⟩)
  go_ret
  exact ⟨rfl, rfl⟩

set_option maxHeartbeats 1600000 in
set_option maxRecDepth 100000 in
theorem iOpOk_any {B : Nat} (v : Value) (fs : List F2) (i : Nat) (o : O3) (w : World) (hr : RdF B w v fs) (hi : i < fs.length) (ho : o3In o) (hfr : 0 ≤ fs[i].f ∧ fs[i].f ≤ 20) (hn : fs.length ≤ 60) (hm : fs[i].os.length ≤ 3000) :
    Calls Try.prog 63 #[v, .int .i64 i, .agg #[.int .i64 o.c, .int .i64 o.n, .int .i64 o.m]] w fun e w' => e = .returned (.bool (opOk fs i o)) ∧ Below w.heap.size w w' := by
  obtain ⟨c, n, m⟩ := o
  obtain ⟨⟨hc0, hc1⟩, ⟨hn0, hn1⟩, ⟨hm0, hm1⟩⟩ := ho
  dsimp only at hc0 hc1 hn0 hn1 hm0 hm1 ⊢
  have hgi : fs.getD i ⟨0, []⟩ = fs[i] := by rw [List.getD_eq_getElem?_getD, List.getElem?_eq_getElem hi]; rfl
  have hil : (i : Int) < (fs.length : Int) := by omega
  have HR5 := Lib.hid (fun (k : Nat) (hk : k < fs.length) => hr.at_ hk)
  obtain ⟨b, off, cap, lv, rfl, hB, hbs, hcap, q0, q1, ro⟩ := hr.at_ hi
  obtain ⟨la, lc, rfl⟩ := ro.form
  have bx : Below w.heap.size w (w.alloc (.cells #[.int .i64 c, .int .i64 n, .int .i64 m] 74)) := (Below.refl _ _).alloc (Nat.le_refl _) _
  obtain ⟨F, hF⟩ : ∃ F, fs[i].f = F := ⟨_, rfl⟩
  obtain ⟨E, hE⟩ : ∃ E, fs[i].os.length = E := ⟨_, rfl⟩
  rw [hE] at hm q1
  rw [hF] at q0 hfr
  have hop : opOk fs i ⟨c, n, m⟩ = opG (fs.length : Int) (E : Int) F (fs.getD n.toNat ⟨0, []⟩).f (i : Int) c n m := by
    unfold opOk opG
    dsimp only
    rw [hgi, hF, hE]
  rw [hop]
  obtain ⟨G, hG⟩ : ∃ G, (fs.getD n.toNat ⟨0, []⟩).f = G := ⟨_, rfl⟩
  rw [hG]
  have HG := Lib.hid hG
  have e0 : IntKind.i64.wrap ((E : Int) - 1) = (E : Int) - 1 := IntWalk.i64_in _ (by omega)
  have e1 : IntKind.i64.wrap (F - 1) = F - 1 := IntWalk.i64_in _ (by omega)
  have e2 : IntKind.i64.wrap ((fs.length : Int) - 1) = (fs.length : Int) - 1 := IntWalk.i64_in _ (by omega)
  have HW := Lib.hid (fun (a b c : Int) (W : World) => (within_any a b c W).mono (fun e w' h => And.intro h.1 h.2.symm))
  clear hr hgi hop hG hF hE ro
  by_cases hk1 : c = 1
  · subst hk1
    obtain ⟨q3, hq3⟩ : ∃ q, wordB n = q := ⟨_, rfl⟩
    cases q3
    all_goals go_enter Try.func63, Try.ntmps63
    all_goals go_wp2_with (first | (go_at_call 44; refine (within_any _ _ _ _).mono ?_; simp only [hq3]; rintro e w' ⟨rfl, rfl⟩) | (go_at_call 48; refine (iWordOk_any _ _).mono ?_; simp only [hq3]; rintro e w' ⟨rfl, rfl⟩))
    all_goals go_ret
    all_goals exact ⟨ret_bool (by first | (simp [opG, hq3]; done) | (simp_all [opG]; done)), by first | exact bx | exact (Below.refl _ _).alloc (Nat.le_refl _) _ | exact below_drewN ((Below.refl _ _).alloc (Nat.le_refl _) _) _⟩
  by_cases hk2 : c = 2
  · subst hk2
    obtain ⟨q3, hq3⟩ : ∃ q, inB n 0 2999 = q := ⟨_, rfl⟩
    cases q3
    all_goals go_enter Try.func63, Try.ntmps63
    all_goals go_wp2_with (first | (go_at_call 44; refine (within_any _ _ _ _).mono ?_; simp only [hq3]; rintro e w' ⟨rfl, rfl⟩) | (go_at_call 48; refine (iWordOk_any _ _).mono ?_; simp only [hq3]; rintro e w' ⟨rfl, rfl⟩))
    all_goals go_ret
    all_goals exact ⟨ret_bool (by first | (simp [opG, hq3]; done) | (simp_all [opG]; done)), by first | exact bx | exact (Below.refl _ _).alloc (Nat.le_refl _) _ | exact below_drewN ((Below.refl _ _).alloc (Nat.le_refl _) _) _⟩
  by_cases hk3 : c = 3
  · subst hk3
    obtain ⟨q3, hq3⟩ : ∃ q, inB n 0 (F - 1) = q := ⟨_, rfl⟩
    cases q3
    all_goals have HQ3 := Lib.hid (fun (W : World) => (by have := HW.out n 0 (F - 1) W; rw [hq3] at this; exact this : Calls Try.prog 44 #[.int .i64 n, .int .i64 0, .int .i64 (F - 1)] W _))
    all_goals go_enter Try.func63, Try.ntmps63
    all_goals go_wp2_with fail
    all_goals go_quiet ((go_at_call 44; exact Calls.quiet_of_same (HQ3.out _)))
    all_goals go_wp2
    all_goals go_ret
    all_goals exact ⟨ret_bool (by first | (simp [opG, hq3]; done) | (simp_all [opG]; done)), by first | exact bx | exact (Below.refl _ _).alloc (Nat.le_refl _) _ | exact below_drewN ((Below.refl _ _).alloc (Nat.le_refl _) _) _⟩
  by_cases hk4 : c = 4
  · subst hk4
    all_goals go_enter Try.func63, Try.ntmps63
    all_goals go_wp2_with (first | (go_at_call 44; refine (within_any _ _ _ _).mono ?_; simp only [Bool.true_and]; rintro e w' ⟨rfl, rfl⟩) | (go_at_call 48; refine (iWordOk_any _ _).mono ?_; simp only [Bool.true_and]; rintro e w' ⟨rfl, rfl⟩))
    all_goals go_ret
    all_goals exact ⟨ret_bool (by first | (simp [opG, Bool.true_and]; done) | (simp_all [opG]; done)), by first | exact bx | exact (Below.refl _ _).alloc (Nat.le_refl _) _ | exact below_drewN ((Below.refl _ _).alloc (Nat.le_refl _) _) _⟩
  by_cases hk5 : c = 5
  · subst hk5
    obtain ⟨q3, hq3⟩ : ∃ q, inB n 1 ((fs.length : Int) - 1) = q := ⟨_, rfl⟩
    cases q3
    · have HQ3 := Lib.hid (fun (W : World) => (by have := HW.out n 1 ((fs.length : Int) - 1) W; rw [hq3] at this; exact this : Calls Try.prog 44 #[.int .i64 n, .int .i64 1, .int .i64 ((fs.length : Int) - 1)] W _))
      go_enter Try.func63, Try.ntmps63
      go_wp2_with fail
      go_quiet ((go_at_call 44; exact Calls.quiet_of_same (HQ3.out _)))
      go_wp2
      all_goals go_ret
      all_goals exact ⟨ret_bool (by first | (simp [opG, hq3]; done) | (simp_all [opG]; done)), by first | exact bx | exact (Below.refl _ _).alloc (Nat.le_refl _) _ | exact below_drewN ((Below.refl _ _).alloc (Nat.le_refl _) _) _⟩
    · have hb5 := inB_true.1 hq3
      obtain ⟨kn, rfl⟩ : ∃ k : Nat, n = (k : Int) := ⟨n.toNat, by omega⟩
      have hkn : kn < fs.length := by omega
      obtain ⟨b', off', cap', lv', hs', _, _, _, c5, _, _⟩ := HR5.out kn hkn
      cases hs'
      have hgg := HG.out
      rw [Int.toNat_natCast, List.getD_eq_getElem?_getD, List.getElem?_eq_getElem hkn] at hgg
      change fs[kn].f = G at hgg
      rw [hgg] at c5
      have hkl : (kn : Int) < (fs.length : Int) := by omega
      have hk0 : (0 : Int) ≤ (kn : Int) := by omega
      clear hgg hb5
      have HQ3 := Lib.hid (fun (W : World) => (by have := HW.out (kn : Int) 1 ((fs.length : Int) - 1) W; rw [hq3] at this; exact this : Calls Try.prog 44 #[.int .i64 (kn : Int), .int .i64 1, .int .i64 ((fs.length : Int) - 1)] W _))
      go_enter Try.func63, Try.ntmps63
      go_wp2_with fail
      go_quiet ((go_at_call 44; exact Calls.quiet_of_same (HQ3.out _)))
      go_wp2
      all_goals go_ret
      all_goals exact ⟨ret_bool (by first | (simp [opG, hq3]; done) | (simp_all [opG]; done)), by first | exact bx | exact (Below.refl _ _).alloc (Nat.le_refl _) _ | exact below_drewN ((Below.refl _ _).alloc (Nat.le_refl _) _) _⟩
  by_cases hk8 : c = 8
  · subst hk8
    obtain ⟨q3, hq3⟩ : ∃ q, inB n 0 59 = q := ⟨_, rfl⟩
    obtain ⟨q4, hq4⟩ : ∃ q, inB m 0 20 = q := ⟨_, rfl⟩
    cases q3
    all_goals cases q4
    all_goals go_enter Try.func63, Try.ntmps63
    all_goals go_wp2_with (first | (go_at_call 44; refine (within_any _ _ _ _).mono ?_; simp only [hq3, hq4]; rintro e w' ⟨rfl, rfl⟩) | (go_at_call 48; refine (iWordOk_any _ _).mono ?_; simp only [hq3, hq4]; rintro e w' ⟨rfl, rfl⟩))
    all_goals go_ret
    all_goals exact ⟨ret_bool (by first | (simp [opG, hq3, hq4]; done) | (simp_all [opG]; done)), by first | exact bx | exact (Below.refl _ _).alloc (Nat.le_refl _) _ | exact below_drewN ((Below.refl _ _).alloc (Nat.le_refl _) _) _⟩
  by_cases hk9 : c = 9
  · subst hk9
    obtain ⟨q3, hq3⟩ : ∃ q, inB n 0 59 = q := ⟨_, rfl⟩
    cases q3
    all_goals go_enter Try.func63, Try.ntmps63
    all_goals go_wp2_with (first | (go_at_call 44; refine (within_any _ _ _ _).mono ?_; simp only [hq3]; rintro e w' ⟨rfl, rfl⟩) | (go_at_call 48; refine (iWordOk_any _ _).mono ?_; simp only [hq3]; rintro e w' ⟨rfl, rfl⟩))
    all_goals go_ret
    all_goals exact ⟨ret_bool (by first | (simp [opG, hq3]; done) | (simp_all [opG]; done)), by first | exact bx | exact (Below.refl _ _).alloc (Nat.le_refl _) _ | exact below_drewN ((Below.refl _ _).alloc (Nat.le_refl _) _) _⟩
  by_cases hk10 : c = 10
  · subst hk10
    obtain ⟨q3, hq3⟩ : ∃ q, inB n 0 59 = q := ⟨_, rfl⟩
    obtain ⟨q4, hq4⟩ : ∃ q, inB m 0 ((E : Int) - 1) = q := ⟨_, rfl⟩
    cases q3
    all_goals cases q4
    all_goals go_enter Try.func63, Try.ntmps63
    all_goals go_wp2_with (first | (go_at_call 44; refine (within_any _ _ _ _).mono ?_; simp only [hq3, hq4]; rintro e w' ⟨rfl, rfl⟩) | (go_at_call 48; refine (iWordOk_any _ _).mono ?_; simp only [hq3, hq4]; rintro e w' ⟨rfl, rfl⟩))
    all_goals go_ret
    all_goals exact ⟨ret_bool (by first | (simp [opG, hq3, hq4]; done) | (simp_all [opG]; done)), by first | exact bx | exact (Below.refl _ _).alloc (Nat.le_refl _) _ | exact below_drewN ((Below.refl _ _).alloc (Nat.le_refl _) _) _⟩
  by_cases hk11 : c = 11
  · subst hk11
    obtain ⟨q3, hq3⟩ : ∃ q, wordB n = q := ⟨_, rfl⟩
    obtain ⟨q4, hq4⟩ : ∃ q, inB m 0 ((E : Int) - 1) = q := ⟨_, rfl⟩
    cases q3
    all_goals cases q4
    all_goals go_enter Try.func63, Try.ntmps63
    all_goals go_wp2_with (first | (go_at_call 44; refine (within_any _ _ _ _).mono ?_; simp only [hq3, hq4]; rintro e w' ⟨rfl, rfl⟩) | (go_at_call 48; refine (iWordOk_any _ _).mono ?_; simp only [hq3, hq4]; rintro e w' ⟨rfl, rfl⟩))
    all_goals go_ret
    all_goals exact ⟨ret_bool (by first | (simp [opG, hq3, hq4]; done) | (simp_all [opG]; done)), by first | exact bx | exact (Below.refl _ _).alloc (Nat.le_refl _) _ | exact below_drewN ((Below.refl _ _).alloc (Nat.le_refl _) _) _⟩
  by_cases hk18 : c = 18
  · subst hk18
    obtain ⟨q3, hq3⟩ : ∃ q, inB n 0 ((E : Int) - 1) = q := ⟨_, rfl⟩
    cases q3
    all_goals go_enter Try.func63, Try.ntmps63
    all_goals go_wp2_with (first | (go_at_call 44; refine (within_any _ _ _ _).mono ?_; simp only [hq3]; rintro e w' ⟨rfl, rfl⟩) | (go_at_call 48; refine (iWordOk_any _ _).mono ?_; simp only [hq3]; rintro e w' ⟨rfl, rfl⟩))
    all_goals go_ret
    all_goals exact ⟨ret_bool (by first | (simp [opG, hq3]; done) | (simp_all [opG]; done)), by first | exact bx | exact (Below.refl _ _).alloc (Nat.le_refl _) _ | exact below_drewN ((Below.refl _ _).alloc (Nat.le_refl _) _) _⟩
  by_cases hk19 : c = 19
  · subst hk19
    obtain ⟨q3, hq3⟩ : ∃ q, inB n 0 ((E : Int) - 1) = q := ⟨_, rfl⟩
    cases q3
    all_goals go_enter Try.func63, Try.ntmps63
    all_goals go_wp2_with (first | (go_at_call 44; refine (within_any _ _ _ _).mono ?_; simp only [hq3]; rintro e w' ⟨rfl, rfl⟩) | (go_at_call 48; refine (iWordOk_any _ _).mono ?_; simp only [hq3]; rintro e w' ⟨rfl, rfl⟩))
    all_goals go_ret
    all_goals exact ⟨ret_bool (by first | (simp [opG, hq3]; done) | (simp_all [opG]; done)), by first | exact bx | exact (Below.refl _ _).alloc (Nat.le_refl _) _ | exact below_drewN ((Below.refl _ _).alloc (Nat.le_refl _) _) _⟩
  obtain ⟨q3, hq3⟩ : ∃ q, inB c 1 21 = q := ⟨_, rfl⟩
  have d1 : (c == (1 : Int)) = false := by simp; omega
  have d2 : (c == (2 : Int)) = false := by simp; omega
  have d3 : (c == (3 : Int)) = false := by simp; omega
  have d4 : (c == (4 : Int)) = false := by simp; omega
  have d5 : (c == (5 : Int)) = false := by simp; omega
  have d8 : (c == (8 : Int)) = false := by simp; omega
  have d9 : (c == (9 : Int)) = false := by simp; omega
  have d10 : (c == (10 : Int)) = false := by simp; omega
  have d11 : (c == (11 : Int)) = false := by simp; omega
  have d18 : (c == (18 : Int)) = false := by simp; omega
  have d19 : (c == (19 : Int)) = false := by simp; omega
  cases q3
  all_goals go_enter Try.func63, Try.ntmps63
  all_goals go_wp2_with (first | (go_at_call 44; refine (within_any _ _ _ _).mono ?_; simp only [hq3]; rintro e w' ⟨rfl, rfl⟩) | (go_at_call 48; refine (iWordOk_any _ _).mono ?_; simp only [hq3]; rintro e w' ⟨rfl, rfl⟩))
  all_goals go_ret
  all_goals exact ⟨ret_bool (by first | (simp [opG, hq3, hk1, hk2, hk3, hk4, hk5, hk8, hk9, hk10, hk11, hk18, hk19]; done) | (simp_all [opG]; done)), by first | exact bx | exact (Below.refl _ _).alloc (Nat.le_refl _) _ | exact below_drewN ((Below.refl _ _).alloc (Nat.le_refl _) _) _⟩

set_option maxHeartbeats 1600000 in
set_option maxRecDepth 100000 in
theorem l13Op_any {B : Nat} (v : Value) (fs : List F2) (i : Nat) (o : O3) (w : World) (hr : RdF B w v fs) (hi : i < fs.length) (ho : o3In o) (hfr : 0 ≤ fs[i].f ∧ fs[i].f ≤ 20) (hn : fs.length ≤ 60) (hm : fs[i].os.length ≤ 3000) :
    Calls Try.prog 54 #[v, .int .i64 i, .agg #[.int .i64 o.c, .int .i64 o.n, .int .i64 o.m]] w fun e w' => e = .returned (.bool (opOk fs i o)) ∧ Below w.heap.size w w' := by
  obtain ⟨c, n, m⟩ := o
  obtain ⟨⟨hc0, hc1⟩, ⟨hn0, hn1⟩, ⟨hm0, hm1⟩⟩ := ho
  dsimp only at hc0 hc1 hn0 hn1 hm0 hm1 ⊢
  have hgi : fs.getD i ⟨0, []⟩ = fs[i] := by rw [List.getD_eq_getElem?_getD, List.getElem?_eq_getElem hi]; rfl
  have hil : (i : Int) < (fs.length : Int) := by omega
  have HR5 := Lib.hid (fun (k : Nat) (hk : k < fs.length) => hr.at_ hk)
  obtain ⟨b, off, cap, lv, rfl, hB, hbs, hcap, q0, q1, ro⟩ := hr.at_ hi
  obtain ⟨la, lc, rfl⟩ := ro.form
  have bx : Below w.heap.size w (w.alloc (.cells #[.int .i64 c, .int .i64 n, .int .i64 m] 74)) := (Below.refl _ _).alloc (Nat.le_refl _) _
  obtain ⟨F, hF⟩ : ∃ F, fs[i].f = F := ⟨_, rfl⟩
  obtain ⟨E, hE⟩ : ∃ E, fs[i].os.length = E := ⟨_, rfl⟩
  rw [hE] at hm q1
  rw [hF] at q0 hfr
  have hop : opOk fs i ⟨c, n, m⟩ = opG (fs.length : Int) (E : Int) F (fs.getD n.toNat ⟨0, []⟩).f (i : Int) c n m := by
    unfold opOk opG
    dsimp only
    rw [hgi, hF, hE]
  rw [hop]
  obtain ⟨G, hG⟩ : ∃ G, (fs.getD n.toNat ⟨0, []⟩).f = G := ⟨_, rfl⟩
  rw [hG]
  have HG := Lib.hid hG
  have e0 : IntKind.i64.wrap ((E : Int) - 1) = (E : Int) - 1 := IntWalk.i64_in _ (by omega)
  have e1 : IntKind.i64.wrap (F - 1) = F - 1 := IntWalk.i64_in _ (by omega)
  have e2 : IntKind.i64.wrap ((fs.length : Int) - 1) = (fs.length : Int) - 1 := IntWalk.i64_in _ (by omega)
  have HW := Lib.hid (fun (a b c : Int) (W : World) => (l1In_any a b c W).mono (fun e w' h => And.intro h.1 h.2.symm))
  clear hr hgi hop hG hF hE ro
  by_cases hk1 : c = 1
  · subst hk1
    obtain ⟨q3, hq3⟩ : ∃ q, wordB n = q := ⟨_, rfl⟩
    cases q3
    all_goals go_enter Try.func54, Try.ntmps54
    all_goals go_wp2_with (first | (go_at_call 36; refine (l1In_any _ _ _ _).mono ?_; simp only [hq3]; rintro e w' ⟨rfl, rfl⟩) | (go_at_call 42; refine (sWordOk_any _ _).mono ?_; simp only [hq3]; rintro e w' ⟨rfl, rfl⟩) | (go_at_call 66; refine (l13Tag_any _ _).mono ?_; simp only [hq3]; rintro e w' ⟨rfl, rfl⟩))
    all_goals go_ret
    all_goals exact ⟨ret_bool (by first | (simp [opG, hq3]; done) | (simp_all [opG]; done)), by first | exact bx | exact (Below.refl _ _).alloc (Nat.le_refl _) _ | exact below_drewN ((Below.refl _ _).alloc (Nat.le_refl _) _) _⟩
  by_cases hk2 : c = 2
  · subst hk2
    obtain ⟨q3, hq3⟩ : ∃ q, inB n 0 2999 = q := ⟨_, rfl⟩
    cases q3
    all_goals go_enter Try.func54, Try.ntmps54
    all_goals go_wp2_with (first | (go_at_call 36; refine (l1In_any _ _ _ _).mono ?_; simp only [hq3]; rintro e w' ⟨rfl, rfl⟩) | (go_at_call 42; refine (sWordOk_any _ _).mono ?_; simp only [hq3]; rintro e w' ⟨rfl, rfl⟩) | (go_at_call 66; refine (l13Tag_any _ _).mono ?_; simp only [hq3]; rintro e w' ⟨rfl, rfl⟩))
    all_goals go_ret
    all_goals exact ⟨ret_bool (by first | (simp [opG, hq3]; done) | (simp_all [opG]; done)), by first | exact bx | exact (Below.refl _ _).alloc (Nat.le_refl _) _ | exact below_drewN ((Below.refl _ _).alloc (Nat.le_refl _) _) _⟩
  by_cases hk3 : c = 3
  · subst hk3
    obtain ⟨q3, hq3⟩ : ∃ q, inB n 0 (F - 1) = q := ⟨_, rfl⟩
    cases q3
    all_goals have HQ3 := Lib.hid (fun (W : World) => (by have := HW.out n 0 (F - 1) W; rw [hq3] at this; exact this : Calls Try.prog 36 #[.int .i64 n, .int .i64 0, .int .i64 (F - 1)] W _))
    all_goals go_enter Try.func54, Try.ntmps54
    all_goals go_wp2_with fail
    all_goals go_quiet ((go_at_call 36; exact Calls.quiet_of_same (HQ3.out _)))
    all_goals go_wp2
    all_goals go_ret
    all_goals exact ⟨ret_bool (by first | (simp [opG, hq3]; done) | (simp_all [opG]; done)), by first | exact bx | exact (Below.refl _ _).alloc (Nat.le_refl _) _ | exact below_drewN ((Below.refl _ _).alloc (Nat.le_refl _) _) _⟩
  by_cases hk4 : c = 4
  · subst hk4
    all_goals go_enter Try.func54, Try.ntmps54
    all_goals go_wp2_with (first | (go_at_call 36; refine (l1In_any _ _ _ _).mono ?_; simp only [Bool.true_and]; rintro e w' ⟨rfl, rfl⟩) | (go_at_call 42; refine (sWordOk_any _ _).mono ?_; simp only [Bool.true_and]; rintro e w' ⟨rfl, rfl⟩) | (go_at_call 66; refine (l13Tag_any _ _).mono ?_; simp only [Bool.true_and]; rintro e w' ⟨rfl, rfl⟩))
    all_goals go_ret
    all_goals exact ⟨ret_bool (by first | (simp [opG, Bool.true_and]; done) | (simp_all [opG]; done)), by first | exact bx | exact (Below.refl _ _).alloc (Nat.le_refl _) _ | exact below_drewN ((Below.refl _ _).alloc (Nat.le_refl _) _) _⟩
  by_cases hk5 : c = 5
  · subst hk5
    obtain ⟨q3, hq3⟩ : ∃ q, inB n 1 ((fs.length : Int) - 1) = q := ⟨_, rfl⟩
    cases q3
    · have HQ3 := Lib.hid (fun (W : World) => (by have := HW.out n 1 ((fs.length : Int) - 1) W; rw [hq3] at this; exact this : Calls Try.prog 36 #[.int .i64 n, .int .i64 1, .int .i64 ((fs.length : Int) - 1)] W _))
      go_enter Try.func54, Try.ntmps54
      go_wp2_with fail
      go_quiet ((go_at_call 36; exact Calls.quiet_of_same (HQ3.out _)))
      go_wp2
      all_goals go_ret
      all_goals exact ⟨ret_bool (by first | (simp [opG, hq3]; done) | (simp_all [opG]; done)), by first | exact bx | exact (Below.refl _ _).alloc (Nat.le_refl _) _ | exact below_drewN ((Below.refl _ _).alloc (Nat.le_refl _) _) _⟩
    · have hb5 := inB_true.1 hq3
      obtain ⟨kn, rfl⟩ : ∃ k : Nat, n = (k : Int) := ⟨n.toNat, by omega⟩
      have hkn : kn < fs.length := by omega
      obtain ⟨b', off', cap', lv', hs', _, _, _, c5, _, _⟩ := HR5.out kn hkn
      cases hs'
      have hgg := HG.out
      rw [Int.toNat_natCast, List.getD_eq_getElem?_getD, List.getElem?_eq_getElem hkn] at hgg
      change fs[kn].f = G at hgg
      rw [hgg] at c5
      have hkl : (kn : Int) < (fs.length : Int) := by omega
      have hk0 : (0 : Int) ≤ (kn : Int) := by omega
      clear hgg hb5
      have HQ3 := Lib.hid (fun (W : World) => (by have := HW.out (kn : Int) 1 ((fs.length : Int) - 1) W; rw [hq3] at this; exact this : Calls Try.prog 36 #[.int .i64 (kn : Int), .int .i64 1, .int .i64 ((fs.length : Int) - 1)] W _))
      go_enter Try.func54, Try.ntmps54
      go_wp2_with fail
      go_quiet ((go_at_call 36; exact Calls.quiet_of_same (HQ3.out _)))
      go_wp2
      all_goals go_ret
      all_goals exact ⟨ret_bool (by first | (simp [opG, hq3]; done) | (simp_all [opG]; done)), by first | exact bx | exact (Below.refl _ _).alloc (Nat.le_refl _) _ | exact below_drewN ((Below.refl _ _).alloc (Nat.le_refl _) _) _⟩
  by_cases hk8 : c = 8
  · subst hk8
    obtain ⟨q3, hq3⟩ : ∃ q, inB n 0 59 = q := ⟨_, rfl⟩
    obtain ⟨q4, hq4⟩ : ∃ q, inB m 0 20 = q := ⟨_, rfl⟩
    cases q3
    all_goals cases q4
    all_goals go_enter Try.func54, Try.ntmps54
    all_goals go_wp2_with (first | (go_at_call 36; refine (l1In_any _ _ _ _).mono ?_; simp only [hq3, hq4]; rintro e w' ⟨rfl, rfl⟩) | (go_at_call 42; refine (sWordOk_any _ _).mono ?_; simp only [hq3, hq4]; rintro e w' ⟨rfl, rfl⟩) | (go_at_call 66; refine (l13Tag_any _ _).mono ?_; simp only [hq3, hq4]; rintro e w' ⟨rfl, rfl⟩))
    all_goals go_ret
    all_goals exact ⟨ret_bool (by first | (simp [opG, hq3, hq4]; done) | (simp_all [opG]; done)), by first | exact bx | exact (Below.refl _ _).alloc (Nat.le_refl _) _ | exact below_drewN ((Below.refl _ _).alloc (Nat.le_refl _) _) _⟩
  by_cases hk9 : c = 9
  · subst hk9
    obtain ⟨q3, hq3⟩ : ∃ q, inB n 0 59 = q := ⟨_, rfl⟩
    cases q3
    all_goals go_enter Try.func54, Try.ntmps54
    all_goals go_wp2_with (first | (go_at_call 36; refine (l1In_any _ _ _ _).mono ?_; simp only [hq3]; rintro e w' ⟨rfl, rfl⟩) | (go_at_call 42; refine (sWordOk_any _ _).mono ?_; simp only [hq3]; rintro e w' ⟨rfl, rfl⟩) | (go_at_call 66; refine (l13Tag_any _ _).mono ?_; simp only [hq3]; rintro e w' ⟨rfl, rfl⟩))
    all_goals go_ret
    all_goals exact ⟨ret_bool (by first | (simp [opG, hq3]; done) | (simp_all [opG]; done)), by first | exact bx | exact (Below.refl _ _).alloc (Nat.le_refl _) _ | exact below_drewN ((Below.refl _ _).alloc (Nat.le_refl _) _) _⟩
  by_cases hk10 : c = 10
  · subst hk10
    obtain ⟨q3, hq3⟩ : ∃ q, inB n 0 59 = q := ⟨_, rfl⟩
    obtain ⟨q4, hq4⟩ : ∃ q, inB m 0 ((E : Int) - 1) = q := ⟨_, rfl⟩
    cases q3
    all_goals cases q4
    all_goals go_enter Try.func54, Try.ntmps54
    all_goals go_wp2_with (first | (go_at_call 36; refine (l1In_any _ _ _ _).mono ?_; simp only [hq3, hq4]; rintro e w' ⟨rfl, rfl⟩) | (go_at_call 42; refine (sWordOk_any _ _).mono ?_; simp only [hq3, hq4]; rintro e w' ⟨rfl, rfl⟩) | (go_at_call 66; refine (l13Tag_any _ _).mono ?_; simp only [hq3, hq4]; rintro e w' ⟨rfl, rfl⟩))
    all_goals go_ret
    all_goals exact ⟨ret_bool (by first | (simp [opG, hq3, hq4]; done) | (simp_all [opG]; done)), by first | exact bx | exact (Below.refl _ _).alloc (Nat.le_refl _) _ | exact below_drewN ((Below.refl _ _).alloc (Nat.le_refl _) _) _⟩
  by_cases hk11 : c = 11
  · subst hk11
    obtain ⟨q3, hq3⟩ : ∃ q, wordB n = q := ⟨_, rfl⟩
    obtain ⟨q4, hq4⟩ : ∃ q, inB m 0 ((E : Int) - 1) = q := ⟨_, rfl⟩
    cases q3
    all_goals cases q4
    all_goals go_enter Try.func54, Try.ntmps54
    all_goals go_wp2_with (first | (go_at_call 36; refine (l1In_any _ _ _ _).mono ?_; simp only [hq3, hq4]; rintro e w' ⟨rfl, rfl⟩) | (go_at_call 42; refine (sWordOk_any _ _).mono ?_; simp only [hq3, hq4]; rintro e w' ⟨rfl, rfl⟩) | (go_at_call 66; refine (l13Tag_any _ _).mono ?_; simp only [hq3, hq4]; rintro e w' ⟨rfl, rfl⟩))
    all_goals go_ret
    all_goals exact ⟨ret_bool (by first | (simp [opG, hq3, hq4]; done) | (simp_all [opG]; done)), by first | exact bx | exact (Below.refl _ _).alloc (Nat.le_refl _) _ | exact below_drewN ((Below.refl _ _).alloc (Nat.le_refl _) _) _⟩
  by_cases hk18 : c = 18
  · subst hk18
    obtain ⟨q3, hq3⟩ : ∃ q, inB n 0 ((E : Int) - 1) = q := ⟨_, rfl⟩
    cases q3
    all_goals go_enter Try.func54, Try.ntmps54
    all_goals go_wp2_with (first | (go_at_call 36; refine (l1In_any _ _ _ _).mono ?_; simp only [hq3]; rintro e w' ⟨rfl, rfl⟩) | (go_at_call 42; refine (sWordOk_any _ _).mono ?_; simp only [hq3]; rintro e w' ⟨rfl, rfl⟩) | (go_at_call 66; refine (l13Tag_any _ _).mono ?_; simp only [hq3]; rintro e w' ⟨rfl, rfl⟩))
    all_goals go_ret
    all_goals exact ⟨ret_bool (by first | (simp [opG, hq3]; done) | (simp_all [opG]; done)), by first | exact bx | exact (Below.refl _ _).alloc (Nat.le_refl _) _ | exact below_drewN ((Below.refl _ _).alloc (Nat.le_refl _) _) _⟩
  by_cases hk19 : c = 19
  · subst hk19
    obtain ⟨q3, hq3⟩ : ∃ q, inB n 0 ((E : Int) - 1) = q := ⟨_, rfl⟩
    cases q3
    all_goals go_enter Try.func54, Try.ntmps54
    all_goals go_wp2_with (first | (go_at_call 36; refine (l1In_any _ _ _ _).mono ?_; simp only [hq3]; rintro e w' ⟨rfl, rfl⟩) | (go_at_call 42; refine (sWordOk_any _ _).mono ?_; simp only [hq3]; rintro e w' ⟨rfl, rfl⟩) | (go_at_call 66; refine (l13Tag_any _ _).mono ?_; simp only [hq3]; rintro e w' ⟨rfl, rfl⟩))
    all_goals go_ret
    all_goals exact ⟨ret_bool (by first | (simp [opG, hq3]; done) | (simp_all [opG]; done)), by first | exact bx | exact (Below.refl _ _).alloc (Nat.le_refl _) _ | exact below_drewN ((Below.refl _ _).alloc (Nat.le_refl _) _) _⟩
  obtain ⟨q3, hq3⟩ : ∃ q, inB c 1 21 = q := ⟨_, rfl⟩
  have d1 : (c == (1 : Int)) = false := by simp; omega
  have d2 : (c == (2 : Int)) = false := by simp; omega
  have d3 : (c == (3 : Int)) = false := by simp; omega
  have d4 : (c == (4 : Int)) = false := by simp; omega
  have d5 : (c == (5 : Int)) = false := by simp; omega
  have d8 : (c == (8 : Int)) = false := by simp; omega
  have d9 : (c == (9 : Int)) = false := by simp; omega
  have d10 : (c == (10 : Int)) = false := by simp; omega
  have d11 : (c == (11 : Int)) = false := by simp; omega
  have d18 : (c == (18 : Int)) = false := by simp; omega
  have d19 : (c == (19 : Int)) = false := by simp; omega
  cases q3
  all_goals go_enter Try.func54, Try.ntmps54
  all_goals go_wp2_with (first | (go_at_call 36; refine (l1In_any _ _ _ _).mono ?_; simp only [hq3]; rintro e w' ⟨rfl, rfl⟩) | (go_at_call 42; refine (sWordOk_any _ _).mono ?_; simp only [hq3]; rintro e w' ⟨rfl, rfl⟩) | (go_at_call 66; refine (l13Tag_any _ _).mono ?_; simp only [hq3]; rintro e w' ⟨rfl, rfl⟩))
  all_goals go_ret
  all_goals exact ⟨ret_bool (by first | (simp [opG, hq3, hk1, hk2, hk3, hk4, hk5, hk8, hk9, hk10, hk11, hk18, hk19]; done) | (simp_all [opG]; done)), by first | exact bx | exact (Below.refl _ _).alloc (Nat.le_refl _) _ | exact below_drewN ((Below.refl _ _).alloc (Nat.le_refl _) _) _⟩

end Go.Proofs.Ytlkdlcpfcacigaa

/- FunsOk: whether functions are right. -/
namespace Go.Proofs.Ytlkdlcpfcacigaa
open Go.RowKit
set_option linter.unusedVariables false
set_option linter.unusedSimpArgs false

def fn0 : F2 := ⟨0, []⟩
def fnHead (x : F2) : Bool := inB x.f 0 20 && inB (x.os.length : Int) 1 3000
def lastC (x : F2) : Int := (x.os.getD (x.os.length - 1) ⟨0, 0, 0⟩).c
def fnLast (x : F2) : Bool := (lastC x == 7) || (lastC x == 19) || (lastC x == 21)
def fnOk (fs : List F2) (i : Nat) : Bool := (fs.getD i fn0).os.all (opOk fs i) && fnLast (fs.getD i fn0)
def funsOk (fs : List F2) : Bool := (inB (fs.length : Int) 1 60 && ((fs.getD 0 fn0).f == 0)) && (fs.all fnHead && (List.range fs.length).all (fnOk fs))
theorem fs_getD {fs : List F2} {i : Nat} (h : i < fs.length) : fs.getD i fn0 = fs[i] := by rw [List.getD_eq_getElem?_getD, List.getElem?_eq_getElem h]; rfl
theorem funsOk_head {fs : List F2} (h : (inB (fs.length : Int) 1 60 && ((fs.getD 0 fn0).f == 0)) = false) : funsOk fs = false := by unfold funsOk; rw [h]; rfl
theorem funsOk_bad {fs : List F2} {i : Nat} (hi : i < fs.length) (h : fnHead fs[i] = false) : funsOk fs = false := by
  have : fs.all fnHead = false := by
    rw [List.all_eq_false]
    exact ⟨_, List.getElem_mem hi, by simp [h]⟩
  unfold funsOk
  rw [this]
  simp
theorem funsOk_fn {fs : List F2} {i : Nat} (hi : i < fs.length) (h : fnOk fs i = false) : funsOk fs = false := by
  have : (List.range fs.length).all (fnOk fs) = false := by
    rw [List.all_eq_false]
    exact ⟨i, List.mem_range.2 hi, by simp [h]⟩
  unfold funsOk
  rw [this]
  simp
theorem fnOk_op {fs : List F2} {i k : Nat} (hi : i < fs.length) (hk : k < fs[i].os.length) (h : opOk fs i fs[i].os[k] = false) : fnOk fs i = false := by
  unfold fnOk
  rw [fs_getD hi]
  have : fs[i].os.all (opOk fs i) = false := by
    rw [List.all_eq_false]
    exact ⟨_, List.getElem_mem hk, by simp [h]⟩
  rw [this]
  rfl
theorem fnOk_last {fs : List F2} {i : Nat} (hi : i < fs.length) (h : fnLast fs[i] = false) : fnOk fs i = false := by
  unfold fnOk
  rw [fs_getD hi, h]
  simp
theorem funsOk_yes {fs : List F2} (h0 : (inB (fs.length : Int) 1 60 && ((fs.getD 0 fn0).f == 0)) = true) (h1 : ∀ j (h : j < fs.length), fnHead fs[j] = true) (h2 : ∀ j, j < fs.length → fnOk fs j = true) : funsOk fs = true := by
  unfold funsOk
  rw [h0, Bool.true_and, Bool.and_eq_true, List.all_eq_true, List.all_eq_true]
  refine ⟨fun x hx => ?_, fun j hj => h2 j (List.mem_range.1 hj)⟩
  obtain ⟨j, hj, rfl⟩ := List.mem_iff_getElem.1 hx
  exact h1 j hj
theorem fnOk_yes {fs : List F2} {i : Nat} (hi : i < fs.length) (h : ∀ k (hk : k < fs[i].os.length), opOk fs i fs[i].os[k] = true) (hl : fnLast fs[i] = true) : fnOk fs i = true := by
  unfold fnOk
  rw [fs_getD hi, hl, Bool.and_true, List.all_eq_true]
  intro x hx
  obtain ⟨k, hk, rfl⟩ := List.mem_iff_getElem.1 hx
  exact h k hk
theorem lastC_at {x : F2} {E : Nat} (hE : x.os.length = E) (h : 0 < E) : ∃ hk : E - 1 < x.os.length, (x.os[E - 1]).c = lastC x := by
  subst hE
  refine ⟨by omega, ?_⟩
  unfold lastC
  rw [List.getD_eq_getElem?_getD, List.getElem?_eq_getElem (by omega)]
  rfl

end Go.Proofs.Ytlkdlcpfcacigaa
