/- FunsOf (impl). -/
import Derived.Test.YtkpkofddfjgmpaaFunsGrow
import Derived.Test.YtkpkofddfjgmpaaBytesEq
import Derived.Test.YtkpkofddfjgmpaaBytesI
namespace Go.Proofs.Ytkpkofddfjgmpaa
open Go.RowKit
set_option linter.unusedVariables false
set_option linter.unusedSimpArgs false

def FunsOfPost (w : World) (b : List Int) (e : Ending) (w' : World) : Prop :=
  ∃ v', e = .returned (.tuple #[v', .bool (funsOf b).isSome]) ∧ OwnF w.heap.size w' v' ((funsOf b).getD []) ∧ Below w.heap.size w w'
theorem tot_bound {b : Nat} : ∀ (fs : List F2), (∀ x ∈ fs, x.os.length ≤ b) → tot fs ≤ b * fs.length := by
  intro fs
  induction fs with
  | nil => intro _; simp [tot]
  | cons x fs ih =>
    intro h
    have h1 := h x (by simp)
    have h2 := ih (fun y hy => h y (by simp [hy]))
    have e : tot (x :: fs) = x.os.length + tot fs := by simp [tot]
    rw [e, List.length_cons, Nat.mul_add]
    omega
theorem funsOf_size (b : List Int) : (((funsOf b).getD []).length : Int) + 3 * (tot ((funsOf b).getD []) : Int) ≤ 8388608 := by
  unfold funsOf
  split
  · simp [tot]
  · split
    · rename_i _ fs i _ h
      obtain ⟨h1, h2, _⟩ := funsOk_parts h.2
      have := tot_bound fs (fun x hx => (h2 x hx).2.2)
      simp only [Option.getD_some]
      omega
    · simp [tot]
theorem ownF_nil {base : Nat} {w : World} {v : Value} (h : w.ownsRow base 34 2 v 0 []) : OwnF base w v [] :=
  ⟨[], h, rfl, fun j a => absurd a (by simp), fun x hx => by simp at hx, List.Pairwise.nil⟩
theorem OwnH.base {base base' hi : Nat} {w : World} {v : Value} {fs : List F2} (h : OwnH base hi w v fs) (hb : base' ≤ base) : OwnF base' w v fs := h.to_f.base hb

set_option maxHeartbeats 3200000 in
set_option maxRecDepth 100000 in
theorem iFunsOf_any {B : Nat} (bv : Value) (b : List Int) (w : World) (hr : Rd B .u8 w bv b) (hb : bytesOk b) (hn : b.length ≤ 1048576) :
    Calls Try.prog 49 #[bv] w (FunsOfPost w b) := by
  obtain ⟨ti, hi, hz0, hz1, hz2⟩ := info_parts Try.infoFun
  have HR := Lib.hid (fun (W : World) (h : Below w.heap.size w W) => hr.below' h)
  have HN := Lib.hid (fun (W : World) (i : Int) (ok : Bool) (hx : Bx W w.heap.size #[bv, .int .i64 i, .bool ok]) (h : Below w.heap.size w W) (h0 : 0 ≤ i) (h1 : i ≤ b.length) => iNum_any w.heap.size bv b i ok W hx (hr.below' h) hb h0 h1 (by omega))
  have HF := Lib.hid (fun (W : World) (i : Int) (hx : Bx W w.heap.size #[bv, .int .i64 i, .bool true]) (h : Below w.heap.size w W) (h0 : 0 ≤ i) (h1 : i ≤ b.length) => iFun_any w.heap.size bv b i W hx (hr.below' h) (Nat.le_refl _) hb h0 h1 hn)
  have HB := Lib.hid hb
  obtain ⟨ba, bc, rfl⟩ := hr.form
  clear hr hb
  go_enter Try.func49, Try.ntmps49
  go_wp2_with fail
  generalize hx : w.alloc _ = x
  obtain ⟨bb, kx⟩ := Bx.alloc hx
  clear hx
  refine (HN.out _ _ _ kx bb (by omega) (by omega)).mono ?_
  rintro e w1 ⟨n1, i1, ok1, rfl, r1, hx, g1, s1⟩
  replace bb : Below w.heap.size w w1 := bb.trans (Below.of_grown g1 bb.size (fun q hq => Nat.le_of_eq (Option.some.inj hq)))
  have hxs : w.heap.size + 1 ≤ w1.heap.size := by have := hx.1; omega
  have a1 := r1.lo
  have c1 := r1.hi
  obtain ⟨c, rfl⟩ : ∃ c : Nat, n1 = (c : Int) := ⟨n1.toNat, by omega⟩
  have HI := Lib.hid (FsInv.start r1)
  clear g1 s1 kx r1
  go_wp2_with fail
  generalize hz : w1.alloc _ = z
  have hown : OwnH (w.heap.size + 1) z.heap.size z (.slice (some ⟨w1.heap.size, 0, none⟩) 0 0) [] := by
    subst hz
    exact OwnH.nil (own_empty rfl hxs) (fun q hq => by cases hq; simp)
  obtain ⟨bz, _⟩ := Bx.alloc hz
  replace hx := hx.below bz hx.1
  replace bb := bb.trans (bz.mono bb.size)
  replace hxs := Nat.le_trans hxs bz.size
  clear hz bz
  go_loopw [6, 7] (fun s t wr => ∃ (k : Nat) (acc : List F2) (i : Int) (ok : Bool) (v : Value), k ≤ c ∧ t = .int .i64 k ∧ s = v ∧ Hid (FsInv b c k i ok acc) ∧ Bx wr w.heap.size #[.slice ba b.length bc, .int .i64 i, .bool ok] ∧ Below w.heap.size w wr ∧ OwnH (w.heap.size + 1) wr.heap.size wr v acc ∧ w.heap.size + 1 ≤ wr.heap.size) (fun _ t _ => c - (intOf t).toNat)
  case atStart => exact ⟨0, [], i1, ok1, _, Nat.zero_le _, rfl, rfl, HI, hx, bb, hown, hxs⟩
  case round =>
    clear HI hx bb hown hxs a1
    obtain ⟨k, acc, i, ok, v, hk, rfl, rfl, HI, hx, bb, hown, hxs⟩ := hrel
    have l0 := HI.out.lo
    have l2 := HI.out.len
    have l3 := HI.out.many
    obtain ⟨va, vc, rfl⟩ := hown.form
    have cx := hx.2.1
    by_cases hgo : ok = true ∧ k < c
    · obtain ⟨rfl, hlt⟩ := hgo
      have hki : (k : Int) < (c : Int) := by omega
      go_wp2_with fail
      clear cx
      refine (HF.out _ _ hx bb l0 l2).mono ?_
      rintro e w2 ⟨x, u, i2, ok2, rfl, r2, ou, hx2, g2⟩
      have hz2' := g2.size
      replace hown := hown.same (w' := w2) (fun q hq1 hq2 => g2.block q hq2 (fun e => by injection e with e; omega))
      replace bb : Below w.heap.size w w2 := bb.trans (Below.of_grown g2 bb.size (fun q hq => Nat.le_of_eq (Option.some.inj hq)))
      have HS := Lib.hid (FsInv.step HI.out hlt HB.out r2)
      have hul : ∀ q, u.ownBlock = some q → wr.heap.size ≤ q := fun q hq => (ou.lt q hq).1
      replace ou := own_base ou (show w.heap.size + 1 ≤ wr.heap.size from hxs)
      obtain ⟨ua, uc, rfl⟩ := own_form ou
      clear HI r2 g2 hx
      obtain ⟨xs, hrow, hrb⟩ := hown.row
      have hal : ∀ q, q < w2.heap.size → (w2.alloc (.cells #[.int .i64 x.f, .slice ua x.os.length uc] 34)).heap[q]? = w2.heap[q]? := fun q hq => ((Below.refl w2.heap.size w2).alloc (Nat.le_refl _) _).block q hq
      go_wp2_with (at_builtin; refine wpList_app1_at rfl _ _ 47 rfl (w.heap.size + 1) 34 ti (.agg #[.int .i64 0, .slice none 0 0]) 2 32 Try.underlying47 hi hz0 hz1 hz2 rfl (by decide) _ _ _ (by rfl) (hrow.alloc (.cells #[.int .i64 x.f, .slice ua x.os.length uc] 34)) #[.int .i64 x.f, .slice ua x.os.length uc] rfl (by simp [Value.oneCell']) (w2.heap.size + 1) (by simp) (by rfl) (by unfold maxLen; omega) (by omega) (by simp; omega) ?_)
      intro v3 w3 o3 g3 alt
      have hsz : (w2.alloc (.cells #[.int .i64 x.f, .slice ua x.os.length uc] 34)).heap.size = w2.heap.size + 1 := by simp
      have hown3 := OwnH.snoc (hown.same (fun q _ hq2 => hal q (by omega))) (ou.alloc _) hul (by omega) g3 (fun ys hy => (own_uniq hy (hrow.alloc _)) ▸ o3) (by rw [hsz]; exact alt)
      have bz := (Below.refl w2.heap.size w2).alloc (Nat.le_refl _) (.cells #[.int .i64 x.f, .slice ua x.os.length uc] 34)
      replace hx := (hx2.below bz hx2.1).grown g3 (fun h => by have := hrb _ h.symm; omega)
      replace bb : Below w.heap.size w w3 := (bb.trans (bz.mono bb.size)).trans (Below.of_grown g3 (by omega) (fun q hq => by have := hrb q hq; omega))
      have hxs3 : w.heap.size + 1 ≤ w3.heap.size := by have := g3.size; omega
      clear hown hrow hrb hal o3 g3 alt ou hul hx2 bz hxs hsz hz2'
      go_wp2
      go_roundw
      case rel => exact ⟨k + 1, _, i2, ok2, v3, hlt, by go_num, rfl, HS, hx, bb, hown3, hxs3⟩
      case measure => simp [intOf]; omega
    · cases ok
      · have hno := (FsInv.done HI.out (fun h => by cases h)).2 rfl
        have HNO := Lib.hid hno
        clear hno hgo
        by_cases hlt : k < c
        · have hki : (k : Int) < (c : Int) := by omega
          go_wp2
          go_ret2
          exact ⟨_, by rw [HNO.out]; rfl, by rw [HNO.out]; exact ownF_nil (World.ownsRow_nil _ _ _ _), bb⟩
        · have hki : ¬ ((k : Int) < (c : Int)) := by omega
          go_wp2
          go_ret2
          exact ⟨_, by rw [HNO.out]; rfl, by rw [HNO.out]; exact ownF_nil (World.ownsRow_nil _ _ _ _), bb⟩
      · have hlt : ¬ k < c := fun h => hgo ⟨rfl, h⟩
        have hki : ¬ ((k : Int) < (c : Int)) := by omega
        have hyes := (FsInv.done HI.out (fun _ => by omega)).1 rfl
        have hfo := funsOf_of HB.out hyes
        obtain ⟨_, _, hpos, hle, _⟩ := parseF_some HB.out hyes
        have hbp : ((b.length : Int) == 0) = false := beq_eq_false_iff_ne.2 (by omega)
        have hne : b ≠ [] := by intro h; rw [h] at hle; simp at hle; omega
        have hfb := iFunsBytes_any _ acc wr (RdF.of_own hown.to_f) HI.out.fin (by omega)
        have HFB := Lib.hid hfb
        have HO := Lib.hid hown
        have hle2 : (funsBytes acc).length ≤ 4294967296 := by
          unfold funsBytes
          split
          · rename_i hok; have := funsRaw_len hok; omega
          · simp
        by_cases heq : funsBytes acc = b
        · have hR : funsOf b = some acc := by rw [hfo, if_pos ⟨heq, hne⟩]
          have HRR := Lib.hid hR
          have HQ := Lib.hid (show decide (funsBytes acc = b) = true from decide_eq_true heq)
          clear hfb hR heq hfo hyes hgo hown hne
          go_wp2_with fail
          refine HFB.out.mono ?_
          rintro e w4 ⟨v4, rfl, o4, b4⟩
          have hbe := bytesEqual_any _ _ (funsBytes acc) b w4 (Rd.of_own o4) (HR.out _ (bb.trans (b4.mono bb.size))) (mem_bytes (funsBytes_in acc)) HB.out
          rw [HQ.out] at hbe
          have HBE := Lib.hid hbe
          obtain ⟨a4, c4, rfl⟩ := own_form o4
          clear hbe o4 cx
          go_wp2_with fail
          refine HBE.out.mono ?_
          rintro e w5 ⟨rfl, rfl⟩
          go_wp2
          go_ret2
          exact ⟨_, by rw [HRR.out]; rfl, by rw [HRR.out]; exact (HO.out.same (fun q _ hq => b4.block q hq)).base (Nat.le_succ _), bb.trans (b4.mono bb.size)⟩
        · have hR : funsOf b = none := by rw [hfo, if_neg (fun h => heq h.1)]
          have HRR := Lib.hid hR
          have HQ := Lib.hid (show decide (funsBytes acc = b) = false from decide_eq_false heq)
          clear hfb hR heq hfo hyes hgo hown hne
          go_wp2_with fail
          refine HFB.out.mono ?_
          rintro e w4 ⟨v4, rfl, o4, b4⟩
          have hbe := bytesEqual_any _ _ (funsBytes acc) b w4 (Rd.of_own o4) (HR.out _ (bb.trans (b4.mono bb.size))) (mem_bytes (funsBytes_in acc)) HB.out
          rw [HQ.out] at hbe
          have HBE := Lib.hid hbe
          obtain ⟨a4, c4, rfl⟩ := own_form o4
          clear hbe o4 cx
          go_wp2_with fail
          refine HBE.out.mono ?_
          rintro e w5 ⟨rfl, rfl⟩
          go_wp2
          go_ret2
          exact ⟨_, by rw [HRR.out]; rfl, by rw [HRR.out]; exact ownF_nil (World.ownsRow_nil _ _ _ _), bb.trans (b4.mono bb.size)⟩

end Go.Proofs.Ytkpkofddfjgmpaa
