/- met's closure: words are seen. -/
import Derived.Test.YtmcoidnonmmpjaaMoveP
import Derived.Test.YtmcoidnonmmpjaaAppR
import Derived.Test.YtmcoidnonmmpjaaAllocI
namespace Go.Proofs.Ytmcoidnonmmpjaa
open Go.RowKit
set_option linter.unusedVariables false

/-- what met has at hand: two variables, two rows, none of them one. -/
structure Seen (w : World) (base gn go gr N cap : Nat) (ov : Value) (o : List Nat) : Prop where
  bn : Bx w gn #[.slice (some ⟨gr, 0, none⟩) N cap]
  bo : Bx w go #[ov]
  on : w.ownsRow base 3 1 (.slice (some ⟨gr, 0, none⟩) N cap) N ((numbers o N).map (Value.int .i64))
  oo : w.ownsRow base 3 1 ov o.length (o.map ofN)
  ap : ∀ k, ov.ownBlock = some k → k ≠ gn ∧ k ≠ go ∧ k ≠ gr
/-- the blocks of it. -/
structure Apart (base gn go gr : Nat) : Prop where
  a : base ≤ gn
  b : base ≤ go
  c : gn ≠ go
  d : gr ≠ gn
  e : gr ≠ go
theorem Seen.below {w w' : World} {base gn go gr N cap : Nat} {ov : Value} {o : List Nat} (h : Seen w base gn go gr N cap ov o) (hb : Below w.heap.size w w') : Seen w' base gn go gr N cap ov o :=
  ⟨h.bn.below hb h.bn.1, h.bo.below hb h.bo.1, own_below h.on hb (own_lt h.on), own_below h.oo hb (own_lt h.oo), h.ap⟩

set_option maxHeartbeats 1600000 in
set_option maxRecDepth 100000 in
theorem see_any {B base gn go gr N cap : Nat} (hA : Apart base gn go gr) (ov v : Value) (ps o : List Nat) (xs : List Int) (w : World) (hS : Seen w base gn go gr N cap ov o) (hr : Rd B .i64 w v xs) (hB : B ≤ base)
    (ho : Ordered ps o) (hx : xs.all (wordIn ps) = true) (hp : ∀ p ∈ ps, p < N) (hN : N ≤ 6000) (hpl : ps.length ≤ 6000) (hxl : xs.length ≤ 4294967296) :
    Calls Try.prog 86 #[v, .pointer (some ⟨gn, 0, none⟩), .pointer (some ⟨go, 0, none⟩)] w fun e w' => e = .returned (.tuple #[]) ∧ (∃ ov', Seen w' base gn go gr N cap ov' (seeL o xs)) ∧ Below base w w' := by
  obtain ⟨a, c, rfl⟩ := hr.form
  obtain ⟨i0, hi, hz0, hz1, hz2⟩ := info_parts Try.infoI2
  have RK := Lib.hid (fun (W : World) (hb : Below base w W) => hr.below hb hB)
  clear hr
  go_enter Try.func86, Try.ntmps86
  have hA1 := hA.a
  have hA2 := hA.b
  have hA3 := hA.c
  have hA4 := hA.d
  have hA5 := hA.e
  have hA3' : ¬ go = gn := fun h => hA3 h.symm
  clear hA
  go_wp2
  go_loopw [9] (fun i wr => ∃ (k : Nat) (ov' : Value), k ≤ xs.length ∧ i = .int .i64 k ∧ Seen wr base gn go gr N cap ov' (seeL o (xs.take k)) ∧ Below base w wr) (fun i _ => xs.length - (intOf i).toNat)
  case atStart => exact ⟨0, ov, Nat.zero_le _, rfl, hS, Below.refl _ _⟩
  case round =>
    clear hS
    obtain ⟨k, ov', hk, rfl, hS, hb⟩ := hrel
    by_cases hlt : k < xs.length
    · rcases RK.out _ hb with ⟨h', _⟩ | ⟨bl, off, c', hv, _, hbs, _, hc⟩
      · rw [h'] at hlt; simp at hlt
      cases hv
      have c0 := hc k hlt
      have hx1 := all_get hx hlt
      have hoS := seeL_ok ho (all_take k hx)
      have hst := seeL_take (o := o) hlt
      obtain ⟨S, hSe⟩ : ∃ S, seeL o (xs.take k) = S := ⟨_, rfl⟩
      obtain ⟨x, hxx⟩ : ∃ x, xs.getD k 0 = x := ⟨_, rfl⟩
      rw [hSe] at hS hoS hst
      rw [hxx] at c0 hx1 hst
      have hSl : S.length ≤ 6000 := Nat.le_trans (nodup_len S ps hoS.1 hoS.2) hpl
      have HST := Lib.hid hst
      clear hst hSe hxx hc
      have hkx : (k : Int) < (xs.length : Int) := by omega
      by_cases hev : x % 2 = 0
      · obtain ⟨p, hpp, hpx⟩ := wordIn_ref hx1 hev
        have hpN := hp p hpp
        have HX := Lib.hid hpx
        have hpe : (x / 2).toNat = p := by omega
        have HSW := Lib.hid (show seeW S x = if p ∈ S then S else S ++ [p] by unfold seeW; rw [if_pos hev, hpe])
        have e1 : (x % 2 == 0) = true := by simp; omega
        have cn := own_cell hS.on p hpN
        rw [List.getElem?_map, List.getElem?_eq_getElem (by rw [numbers_len]; exact hpN), Option.map_some, show (numbers S N)[p]'(by rw [numbers_len]; exact hpN) = numOf S p by simp [numbers]] at cn
        have fn := own_frozen hS.on p
        have q1 := hS.bn.2.1
        have y1 := hS.bn.1
        clear hpx hpe
        by_cases hin : p ∈ S
        · have hm := (numOf_in hin).1
          obtain ⟨m, hmm⟩ : ∃ m, numOf S p = m := ⟨_, rfl⟩
          rw [hmm] at cn hm
          have HS := Lib.hid hS
          have HIN := Lib.hid hin
          have HB := Lib.hid hb
          clear hmm hS hin hb
          have hpi : (p : Int) < (N : Int) := by omega
          go_wp2_with (first | (go_at_call 67; refine (iWordRef_any _ _).mono ?_; rw [← HX.out]; rintro e w' ⟨rfl, rfl⟩) | (go_at_call 65; refine (iIsRef_any _ _).mono ?_; rintro e w' ⟨rfl, rfl⟩))
          go_roundw
          case rel => exact ⟨k + 1, ov', hlt, by go_num, by rw [HST.out, HSW.out, if_pos HIN.out]; exact HS.out, HB.out⟩
          case measure => simp [intOf]; omega
        · rw [numOf_out hin] at cn
          have on3 := own_set hS.on p hpN (.int .i64 S.length)
          rw [← List.map_set, numbers_push hin hpN] at on3
          have g3 := grownBy.setCell wr gr p (.int .i64 S.length)
          have bn3 := hS.bn.grown g3 (fun h => hA4 (Option.some.inj h).symm)
          have bo3 := hS.bo.grown g3 (fun h => hA5 (Option.some.inj h).symm)
          have oo3 := ownsRow_setCell_other (a := ⟨gr, p, none⟩) hS.oo (fun h => (hS.ap _ h).2.2 rfl) (.int .i64 S.length)
          have hb3 := hb.setCell (p := ⟨gr, p, none⟩) (hS.on.lt gr rfl).1 (.int .i64 S.length)
          have hap := hS.ap
          obtain ⟨oa, oc, rfl⟩ := own_form hS.oo
          have q2 := hS.bo.2.1
          have y2 := hS.bo.1
          have y3 := (hS.on.lt gr rfl).2
          have ON := Lib.hid on3
          have BN := Lib.hid bn3
          have BO := Lib.hid bo3
          have OO := Lib.hid oo3
          have HB := Lib.hid hb3
          have AP := Lib.hid hap
          have HIN := Lib.hid hin
          have hpi : (p : Int) < (N : Int) := by omega
          have nz := hb.size
          clear hS hb on3 g3 bn3 bo3 oo3 hb3 hap hin
          go_wp2_with (first | (go_at_call 67; refine (iWordRef_any _ _).mono ?_; rw [← HX.out]; rintro e w' ⟨rfl, rfl⟩) | (go_at_call 65; refine (iIsRef_any _ _).mono ?_; rintro e w' ⟨rfl, rfl⟩) | (at_builtin; refine wpList_app1_at rfl _ _ 24 rfl base 3 i0 (.int .i64 0) 1 8 Try.underlying24 hi hz0 hz1 hz2 rfl (by decide) _ _ _ rfl OO.out #[_] rfl ?_ wr.heap.size (World.size_setCell _ _ _) rfl ?_ ?_ ?_ ?_))
          · rfl
          · unfold maxLen; omega
          · omega
          · simp; omega
          · intro v' w4 ho4 hg4 hat4
            have wz : (wr.setCell ⟨gr, p, none⟩ (.int .i64 S.length)).heap.size = wr.heap.size := by simp
            have ha4 : ∀ k, v'.ownBlock = some k → k ≠ gn ∧ k ≠ go ∧ k ≠ gr := by
              intro k hk
              rcases hat4 with h | h
              · exact AP.out k (h ▸ hk)
              · rw [h] at hk
                have := Option.some.inj hk
                omega
            have on4 := ON.out.kept hg4 (.inr (fun h => by have := AP.out _ h.symm; exact this.2.2 rfl))
            have bn4 := BN.out.grown hg4 (fun h => (AP.out _ h.symm).1 rfl)
            have bo4 := BO.out.grown hg4 (fun h => (AP.out _ h.symm).2.1 rfl)
            have hb4 := HB.out.trans (Below.of_grown (B := base) hg4 (by rw [wz]; omega) (fun k hk => (OO.out.lt k hk).1))
            have S5 : Seen (w4.setCell ⟨go, 0, none⟩ v') base gn go gr N cap v' (seeL o (xs.take (k + 1))) := by
              rw [HST.out, HSW.out, if_neg HIN.out]
              refine ⟨bn4.grown (grownBy.setCell w4 go 0 v') (fun h => hA3 (Option.some.inj h)), bo4.set 0 (by simp) v', ownsRow_setCell_other (a := ⟨go, 0, none⟩) on4 (fun h => hA5 (Option.some.inj h)) v', ?_, ha4⟩
              refine ownsRow_setCell_other (a := ⟨go, 0, none⟩) ?_ (fun h => (ha4 _ h).2.1 rfl) v'
              simpa [ofN] using ho4
            have B5 : Below base w (w4.setCell ⟨go, 0, none⟩ v') := hb4.setCell hA2 v'
            have q5 := bo4.2.1
            have f5 := bo4.2.2
            have hv5 : ∃ a c, v' = .slice a (S.length + 1) c := own_form ho4
            obtain ⟨a5, c5, rfl⟩ := hv5
            have HS5 := Lib.hid S5
            have HB5 := Lib.hid B5
            clear S5 B5 bn4 on4 bo4 hb4 ha4 hat4 hg4 ho4 wz q1 q2
            go_wp2
            go_roundw
            case rel => exact ⟨k + 1, _, hlt, by go_num, HS5.out, HB5.out⟩
            case measure => simp [intOf]; omega
      · have e1 : (x % 2 == 0) = false := by simp; omega
        have HSW := Lib.hid (show seeW S x = S by unfold seeW; rw [if_neg hev])
        have HS := Lib.hid hS
        have HB := Lib.hid hb
        clear hev hS hb
        go_wp2_with (first | (go_at_call 67; refine (iWordRef_any _ _).mono ?_; rintro e w' ⟨rfl, rfl⟩) | (go_at_call 65; refine (iIsRef_any _ _).mono ?_; rintro e w' ⟨rfl, rfl⟩))
        go_roundw
        case rel => exact ⟨k + 1, ov', hlt, by go_num, by rw [HST.out, HSW.out]; exact HS.out, HB.out⟩
        case measure => simp [intOf]; omega
    · obtain rfl : k = xs.length := by omega
      rw [List.take_of_length_le (Nat.le_refl _)] at hS
      have HS := Lib.hid hS
      have HB := Lib.hid hb
      clear hS hb
      go_wp2
      go_end0
      exact ⟨rfl, ⟨ov', HS.out⟩, HB.out⟩

end Go.Proofs.Ytmcoidnonmmpjaa
