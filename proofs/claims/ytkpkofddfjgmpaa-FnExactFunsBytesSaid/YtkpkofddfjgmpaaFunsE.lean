/- eqFunS: functions are held against themselves. -/
import Derived.Test.YtkpkofddfjgmpaaFuns
namespace Go.Proofs.Ytkpkofddfjgmpaa
open Go.RowKit
set_option linter.unusedVariables false

set_option maxHeartbeats 800000 in
theorem eqFunS_same {B1 B2 : Nat} (va vb : Value) (fs : List F2) (w : World) (ha : RdF B1 w va fs) (hb : RdF B2 w vb fs) :
    Calls Try.prog 43 #[va, vb] w fun e w' => e = .returned (.bool true) ∧ Below w.heap.size w w' := by
  have hx := ha.len
  unfold maxLen at hx
  have HA := Lib.hid (fun (W : World) (h : Below w.heap.size w W) => ha.below' h)
  have HB := Lib.hid (fun (W : World) (h : Below w.heap.size w W) => hb.below' h)
  obtain ⟨a1, cap1, rfl⟩ := ha.form
  obtain ⟨a2, cap2, rfl⟩ := hb.form
  clear ha hb
  go_enter Try.func43, Try.ntmps43
  go_wp2
  go_loopw [5] (fun i wr => ∃ k : Nat, k ≤ fs.length ∧ i = .int .i64 k ∧ Below w.heap.size w wr) (fun i _ => fs.length - (intOf i).toNat)
  case atStart => exact ⟨0, Nat.zero_le _, rfl, Below.refl _ _⟩
  case round =>
    obtain ⟨k, hk, rfl, hb⟩ := hrel
    by_cases hlt : k < fs.length
    · obtain ⟨b, off, cap', lv, hs, hB, hbs, hcap, c0, c1, ro⟩ := (HA.out _ hb).at_ hlt
      cases hs
      obtain ⟨b', off', cap'', lv', hs', hB', hbs', hcap', d0, d1, ro'⟩ := (HB.out _ hb).at_ hlt
      cases hs'
      obtain ⟨la, lc, rfl⟩ := ro.form
      obtain ⟨la', lc', rfl⟩ := ro'.form
      have hkl : (k : Int) < (fs.length : Int) := by omega
      have hc := fun (W : World) (h : Below wr.heap.size wr W) => eqFun_same fs[k].f _ _ fs[k].os W (RdE.below' ro h) (RdE.below' ro' h)
      have HC := Lib.hid hc
      have BB := Lib.hid hb
      clear hc ro ro' hb
      go_wp2_with fail
      go_region_held3 (fun w' => w'.cell? ⟨b, off + k * 2, none⟩ = some (.int .i64 fs[k].f) ∧ w'.cell? ⟨b, off + k * 2 + 1, none⟩ = some (.slice la fs[k].os.length lc) ∧ w'.cell? ⟨b', off' + k * 2, none⟩ = some (.int .i64 fs[k].f) ∧ w'.cell? ⟨b', off' + k * 2 + 1, none⟩ = some (.slice la' fs[k].os.length lc'))
        (first | (go_split_ands; refine ⟨?_, ?_, ?_, ?_⟩ <;> (refine (b9.cell (by simp only [World.size_drew]; omega)).trans ?_; with_reducible assumption)) | (go_keep; done)) (first | (go_at_call 32; refine (HC.out _ ((Below.refl _ _).drew)).mono ?_; rintro e w9 ⟨hu, b9⟩; subst hu))
      have B9 := Lib.hid (BB.out.trans ((((Below.refl _ _).drew).trans b9).mono BB.out.size))
      clear b9 BB c0 c1 d0 d1 HC
      go_wp2
      go_roundw
      case rel => exact ⟨k + 1, hlt, by go_num, B9.out⟩
      case measure => simp [intOf]; omega
    · go_wp2
      go_ret
      exact ⟨rfl, hb⟩

end Go.Proofs.Ytkpkofddfjgmpaa
