/- starts, l17Places: the places of blocks. -/
import Derived.Test.YtlkdlcpfcacigaaMgLib
import Derived.Test.YtlkdlcpfcacigaaMgScalar
namespace Go.Proofs.Ytlkdlcpfcacigaa
open Go.RowKit
set_option linter.unusedVariables false

theorem Try.infoI1 : (Try.prog.info? 3).map (fun i => (i.zero, i.size, i.bytes)) = some (some (.int .i64 0), 1, 8) := by kernel_rfl
def ofN (p : Nat) : Value := .int .i64 (p : Int)
def intsOk (ws : List Int) : Prop := ∀ j, -9223372036854775808 ≤ ws.getD j 0 ∧ ws.getD j 0 ≤ 9223372036854775807
/-- what a list of places is told as. -/
def Told (W : World) (e : Ending) (w' : World) (o : Option (List Nat)) : Prop :=
  match o with
  | none => ∃ a n c, e = .returned (.tuple #[.slice a n c, .bool false])
  | some ps => ∃ v, e = .returned (.tuple #[v, .bool true]) ∧ w'.ownsRow W.heap.size 3 1 v ps.length (ps.map ofN)

/-- a heap's frame: half and base in bounds. -/
structure Frame (ws : List Int) (h b n : Nat) : Prop where
  h0 : 1 ≤ h
  h1 : h ≤ 3000
  len : ws.length = 2 * h
  base : b = 0 ∨ b = h
  n0 : b ≤ n
  n1 : n ≤ b + h

set_option maxHeartbeats 800000 in
set_option maxRecDepth 100000 in
theorem l17Places_any {B : Nat} (v : Value) (ws : List Int) (h b n : Nat) (w : World) (hr : Rd B .i64 w v ws) (hw : intsOk ws) (hf : Frame ws h b n) :
    Calls Try.prog 40 #[.agg #[v, .int .i64 h, .int .i64 b, .int .i64 n]] w fun e w' => Told w e w' (placesOf ws b n) ∧ Below w.heap.size w w' := by
  obtain ⟨f0, f1, f2, f3, f4, f5⟩ := hf
  rcases hr with ⟨rfl, _⟩ | ⟨bl, off, cap, rfl, hB, hbs, _, hc⟩
  · simp at f2; omega
  obtain ⟨i0, hi, hz0, hz1, hz2⟩ := info_parts Try.infoI1
  obtain ⟨o, ho⟩ : ∃ o, placesOf ws b n = o := ⟨_, rfl⟩
  rw [ho]
  unfold placesOf at ho
  have HO := Lib.hid ho
  have hn2 : n ≤ 2 * h := by rcases f3 with h' | h' <;> omega
  have f2a : ws.length ≤ 2 * h := by omega
  have f2b : 2 * h ≤ ws.length := by omega
  clear ho f3 f2
  go_enter Try.func40, Try.ntmps40
  go_wp2
  go_loopw [4, 5] (fun q p wr => ∃ (k : Nat) (acc : List Nat), p = .int .i64 k ∧ b ≤ k ∧ k ≤ n ∧ wr.ownsRow (w.heap.size + 1) 3 1 q acc.length (acc.map ofN) ∧ acc.length ≤ k ∧ Hid ((places ws n (n - k) k).map (acc ++ ·) = o) ∧ Below (w.heap.size + 1) (w.alloc (.cells #[.slice (some ⟨bl, off, none⟩) ws.length cap, .int .i64 h, .int .i64 b, .int .i64 n] 27)) wr) (fun _ p _ => n - (intOf p).toNat)
  case atStart =>
    refine ⟨b, [], rfl, Nat.le_refl _, f4, ?_, Nat.zero_le _, ?_, (Below.refl _ _).alloc ?_ _⟩
    · exact own_empty (by simp) (by omega)
    · show _ = _
      rw [← HO.out]
      cases places ws n (n - b) b <;> rfl
    · simp
  case round =>
    obtain ⟨k, acc, rfl, hk0, hk1, hown, hal, hp, hb⟩ := hrel
    obtain ⟨qa, qc, rfl⟩ := own_form hown
    have kb := ((Bx.alloc (w := w) rfl).2.below hb (by omega))
    have hsz := hb.size
    simp at hsz
    have q1 := kb.2.1
    have y1 := kb.1
    clear kb
    by_cases hlt : k < n
    · have hin : k < ws.length := by omega
      have cw := (hb.cell (p := ⟨bl, off + k, none⟩) (by show bl < _; omega)).trans ((World.cell?_alloc_past _ _ _ hbs).trans (hc k hin))
      have hx := hw k
      obtain ⟨x, hxx⟩ : ∃ x, ws.getD k 0 = x := ⟨_, rfl⟩
      rw [hxx] at cw hx
      have HX := Lib.hid hxx
      obtain ⟨hx0, hx1⟩ := hx
      clear hc hw hxx
      cases hh : hOk x
      · have hp' := hp.out
        rw [show n - k = (n - k - 1) + 1 from by omega, places_bad hlt (by rw [HX.out, hh]; simp)] at hp'
        have HP := Lib.hid hp'
        clear hp hp'
        by_cases hneg : x < 0
        · go_wp2_with fail
          refine (l17Of_neg _ _ hneg hx0).mono ?_
          rintro e w' ⟨⟨bb, tt, kk, rfl⟩, rfl⟩
          go_wp2
          go_ret2
          rw [← HP.out]
          exact ⟨⟨_, _, _, rfl⟩, ((Below.refl _ _).alloc (Nat.le_refl _) _).trans (hb.mono (by omega))⟩
        · have hge : 0 ≤ x := by omega
          have hn := hOk_false.1 hh
          by_cases c1 : x % 2 = 0
          · have e1 : (x % 2 == 0) = true := by simp; omega
            clear hn
            go_wp2_with fail
            refine (l17Of_any _ _ hge hx1).mono ?_
            rintro e w' ⟨rfl, rfl⟩
            go_wp2_with (go_at_call 56; refine (sIsRef_any _ _).mono ?_; rintro e w' ⟨rfl, rfl⟩)
            go_ret2
            rw [← HP.out]
            exact ⟨⟨_, _, _, rfl⟩, ((Below.refl _ _).alloc (Nat.le_refl _) _).trans (hb.mono (by omega))⟩
          · have e1 : (x % 2 == 0) = false := by simp; omega
            by_cases c3 : hTag x ≤ 3000
            · have e4 : 20 < hKids x := by omega
              clear hn
              go_wp2_with fail
              refine (l17Of_any _ _ hge hx1).mono ?_
              rintro e w' ⟨rfl, rfl⟩
              go_wp2_with (go_at_call 56; refine (sIsRef_any _ _).mono ?_; rintro e w' ⟨rfl, rfl⟩)
              go_ret2
              rw [← HP.out]
              exact ⟨⟨_, _, _, rfl⟩, ((Below.refl _ _).alloc (Nat.le_refl _) _).trans (hb.mono (by omega))⟩
            · clear hn
              go_wp2_with fail
              refine (l17Of_any _ _ hge hx1).mono ?_
              rintro e w' ⟨rfl, rfl⟩
              go_wp2_with (go_at_call 56; refine (sIsRef_any _ _).mono ?_; rintro e w' ⟨rfl, rfl⟩)
              go_ret2
              rw [← HP.out]
              exact ⟨⟨_, _, _, rfl⟩, ((Below.refl _ _).alloc (Nat.le_refl _) _).trans (hb.mono (by omega))⟩
      · obtain ⟨c1, hge, c3, c4⟩ := hOk_true.1 hh
        have e1 : (x % 2 == 0) = false := by simp; omega
        have hkn := hK_cast x
        rw [← hkn] at c4
        have hkb := hKids_nonneg x
        rw [← hkn] at hkb
        by_cases hfit : k + 1 + hK x ≤ n
        · have hp' := hp.out
          rw [show n - k = (n - k - 1) + 1 from by omega, places_go hlt (by rw [HX.out, hh]) (by rw [HX.out]; exact hfit), HX.out] at hp'
          have HP := Lib.hid hp'
          have HK := Lib.hid hkn
          clear hp hp' hkn
          go_wp2_with fail
          refine (l17Of_any _ _ hge hx1).mono ?_
          rw [← HK.out]
          rintro e w' ⟨rfl, rfl⟩
          clear hkb
          have hkb1 : hK x < 64 := by have := hKids_nonneg x; have := HK.out; omega
          go_wp2_with (first | (go_at_call 56; refine (sIsRef_any _ _).mono ?_; rintro e w' ⟨rfl, rfl⟩) | (at_builtin; refine wpList_app1 rfl _ _ 25 rfl (w.heap.size + 1) 3 i0 (.int .i64 0) 1 8 Try.underlying25 hi hz0 hz1 hz2 rfl (by decide) _ _ _ rfl hown #[_] rfl ?_ rfl ?_ ?_ ?_ ?_))
          · rfl
          · unfold maxLen; omega
          · omega
          · omega
          · intro v' w1 ho' hg _
            have hb' := hb.grown hg (by omega) (fun kk hk => (hown.lt kk hk).1)
            have R : w1.ownsRow (w.heap.size + 1) 3 1 v' (acc ++ [k]).length ((acc ++ [k]).map ofN) ∧ Hid ((places ws n (n - (k + 1 + hK x)) (k + 1 + hK x)).map ((acc ++ [k]) ++ ·) = o) := by
              refine ⟨by simpa [ofN] using ho', ?_⟩
              show _ = _
              rw [← HP.out, Option.map_map, places_fuel (n - (k + 1 + hK x)) (n - k - 1) _ (by omega) (by omega)]
              cases places ws n (n - k - 1) (k + 1 + hK x) <;> simp
            have y2 := hb'.size
            clear ho' hg hb hown q1 y1
            go_wp2
            go_roundw
            case rel => exact ⟨k + 1 + hK x, acc ++ [k], by go_num, by omega, hfit, R.1, by simp; omega, R.2, hb'⟩
            case measure => simp [intOf]; omega
        · have hp' := hp.out
          rw [show n - k = (n - k - 1) + 1 from by omega, places_bad hlt (by rw [HX.out]; omega)] at hp'
          have HP := Lib.hid hp'
          have HK := Lib.hid hkn
          clear hp hp' hkn
          go_wp2_with fail
          refine (l17Of_any _ _ hge hx1).mono ?_
          rw [← HK.out]
          rintro e w' ⟨rfl, rfl⟩
          clear hkb
          have hkb1 : hK x < 64 := by have := hKids_nonneg x; have := HK.out; omega
          go_wp2_with (go_at_call 56; refine (sIsRef_any _ _).mono ?_; rintro e w' ⟨rfl, rfl⟩)
          go_ret2
          rw [← HP.out]
          exact ⟨⟨_, _, _, rfl⟩, ((Below.refl _ _).alloc (Nat.le_refl _) _).trans (hb.mono (by omega))⟩
    · have hp' := hp.out
      rw [places_end hlt] at hp'
      have HP := Lib.hid hp'
      clear hp hp'
      go_wp2
      go_ret2
      rw [← HP.out]
      refine ⟨⟨_, rfl, ?_⟩, ((Below.refl _ _).alloc (Nat.le_refl _) _).trans (hb.mono (by omega))⟩
      simpa using own_base hown (by omega)

end Go.Proofs.Ytlkdlcpfcacigaa
