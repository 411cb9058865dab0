/- Parts of the proof of FnBytes. -/
import Derived.Test.YtdmkhipimcjipaaGreatZ14
import Derived.StillTail
import Derived.Test.YtdmkhipimcjipaaGreatZ13
import Derived.Test.YtdmkhipimcjipaaGreatRows
import Derived.BigQuiet
import Derived.IntWalk
set_option linter.unusedVariables false
set_option linter.unusedSimpArgs false
section
namespace Go.Proofs.YtdmkhipimcjipaaGreat
open Go
set_option linter.unusedVariables false
section
variable {P : Program} {ops : Array Oper} {Q : Exit → Act → World → Prop} {md : Region.Mode} {S : World → Prop} {n : Nat}
def wpAnyT (P : Program) (md : Region.Mode) (ops : Array Oper) (Q : Exit → Act → World → Prop) (S : World → Prop) (n : Nat) : Nat → Array Bool → Act → World → Prop
  | 0, listed, a, w => Region.seqB md ops (ops.size - n) n listed = true ∧ wpList P ops Q (ops.toList.drop n) a w
  | f + 1, listed, a, w => Region.ready md ops listed ≠ [] ∧ ∀ i ∈ Region.ready md ops listed, i < n ∧ wpOp P ops Q i (fun a' w' => S w' ∧ wpAnyT P md ops Q S n f (listed.setIfInBounds i true) a' w') a w
theorem wpAny_of_T : ∀ (f : Nat) (listed : Array Bool) (a : Act) (w : World), wpAnyT P md ops Q S n f listed a w → wpAny P md ops Q (f + (ops.size - n)) listed a w
  | 0, listed, a, w, h => by
    have := wpAny_of_seq (md := md) (ops := ops) (Q' := Q) (ops.toList.drop n) n listed a w (fun j => by simp [List.getElem?_drop]) (by simpa using h.1) h.2
    simpa using this
  | f + 1, listed, a, w, h => by
    rw [show f + 1 + (ops.size - n) = (f + (ops.size - n)) + 1 by omega]
    exact ⟨fun h0 => absurd h0 h.1, fun i hi => wpOp_mono (fun a' w' h' => wpAny_of_T f _ a' w' h'.2) (h.2 i hi).2⟩
theorem wpAnyT_first {i : Nat} {oi : Oper} {v : Value} (hi : ops[i]? = some oi) (hsel : ∀ (j : Nat) (o : Oper) cs b, ops[j]? = some o → o.op ≠ .select cs b)
    (hQ : ∀ c a w, Q (.panic c) (a.put oi.dst v) w → Q (.panic c) a w)
    (hs : Region.sinkB md ops n = true) (hc : Region.chainB md ops n = true) (hn : n < ops.size) (hin : i < n) :
    ∀ (f : Nat) (listed : Array Bool) (a : Act) (w : World), HeadInv md ops n listed →
      (∀ j oj, ops[j]? = some oj → j ≠ i → listed.getD j true = false → (∀ e ∈ oj.after, Region.binds md e = true → e.on ≠ i) → oi.apart ops oj = true) →
      i ∈ Region.ready md ops listed → YieldsIf P ops S oi v a → S w →
      wpAnyT P md ops Q S n f (listed.setIfInBounds i true) (a.put oi.dst v) w → wpAnyT P md ops Q S n (f + 1) listed a w := by
  intro f
  induction f with
  | zero =>
    intro listed a w inv _ hr hy hS H
    have hun := (mem_ready.1 hr).1
    refine ⟨fun h => (by rw [h] at hr; cases hr), fun j hj => ?_⟩
    have hjn : j < n := by
      rcases Nat.lt_or_ge j n with h | h
      · exact h
      · exact absurd hj (tail_waits hs hc hn inv _ i rfl hin hun j h)
    refine ⟨hjn, ?_⟩
    by_cases hji : j = i
    · subst hji; exact hy.wpOp hi hS ⟨hS, H⟩
    · have := seqB_ready H.1 j (ready_mono hj hji)
      omega
  | succ f ih =>
    intro listed a w inv hfree hr hy hS H
    have hun := (mem_ready.1 hr).1
    refine ⟨fun h => (by rw [h] at hr; cases hr), fun j hj => ?_⟩
    have hjn : j < n := by
      rcases Nat.lt_or_ge j n with h | h
      · exact h
      · exact absurd hj (tail_waits hs hc hn inv _ i rfl hin hun j h)
    refine ⟨hjn, ?_⟩
    by_cases hji : j = i
    · subst hji; exact hy.wpOp hi hS ⟨hS, H⟩
    · have h1 := (H.2 j (ready_mono hj hji)).2
      obtain ⟨hjun, oj, hoj, hall⟩ := mem_ready.1 hj
      have hnot : ∀ e ∈ oj.after, Region.binds md e = true → e.on ≠ i := fun e he hb heq => by
        have h1 := hall e he hb
        rw [heq, getD_both hun] at h1
        cases h1
      have h2 := wpOp_putIf hoj (hfree j oj hoj hji hjun hnot) (fun cs b => hsel i oi cs b hi) (fun cs b => hsel j oj cs b hoj) hQ hy h1
      have hfree' : ∀ k ok, ops[k]? = some ok → k ≠ i → (listed.setIfInBounds j true).getD k true = false →
          (∀ e ∈ ok.after, Region.binds md e = true → e.on ≠ i) → oi.apart ops ok = true := fun k ok hk hki hun hno => by
        refine hfree k ok hk hki ?_ hno
        by_cases hjk : j = k
        · subst hjk; exact hjun
        · rw [getD_set_ne true hjk] at hun; exact hun
      refine wpOp_mono (fun a' w' h3 => ⟨h3.2.1, ih (listed.setIfInBounds j true) a' w' (inv.set hj hjn) hfree' (ready_mono hr (Ne.symm hji)) h3.1 h3.2.1 ?_⟩) h2
      rw [Array.setIfInBounds_comm _ _ hji]
      exact h3.2.2
def headB (md : Region.Mode) (ops : Array Oper) (n : Nat) (listed : Array Bool) : Bool :=
  decide (listed.size = ops.size) && ((List.range ops.size).all (fun j => !listed.getD j false || (match ops[j]? with | some o => o.after.all fun e => !Region.binds md e || listed.getD e.on false | none => true)) &&
    (List.range ops.size).all (fun t => decide (t < n) || !listed.getD t true))
theorem headB_inv {listed : Array Bool} (h : headB md ops n listed = true) : HeadInv md ops n listed := by
  simp only [headB, Bool.and_eq_true, decide_eq_true_eq, List.all_eq_true, List.mem_range, Bool.or_eq_true, Bool.not_eq_true'] at h
  obtain ⟨h1, h2, h3⟩ := h
  refine ⟨h1, fun j oj hj hl e he hb => ?_, fun t ht hts => ?_⟩
  · have hlt : j < ops.size := (Array.getElem?_eq_some_iff.1 hj).1
    rcases h2 j hlt with h | h
    · rw [h] at hl; cases hl
    · rw [hj] at h
      simp only [Array.all_eq_true', Bool.or_eq_true, Bool.not_eq_true'] at h
      rcases h e he with h | h
      · rw [h] at hb; cases hb
      · exact h
  · rcases h3 t hts with h | h
    · omega
    · exact h
def tailB (md : Region.Mode) (ops : Array Oper) (n : Nat) (i : Nat) (listed : Array Bool) : Bool :=
  Region.noSelect ops && (Region.sinkB md ops n && (Region.chainB md ops n && (decide (n < ops.size) && (decide (i < n) && headB md ops n listed))))
theorem wpAnyT_take {i : Nat} {oi : Oper} {v : Value} {fuel : Nat} {listed : Array Bool} {a : Act} {w : World} (hi : ops[i]? = some oi)
    (hs : tailB md ops n i listed = true) (hf : Region.free md ops listed i = true) (hr : (Region.ready md ops listed).contains i = true)
    (hQ : ∀ c a w, Q (.panic c) (a.put oi.dst v) w → Q (.panic c) a w) (hy : YieldsIf P ops S oi v a) (hS : S w)
    (h : wpAnyT P md ops Q S n fuel (listed.setIfInBounds i true) (a.put oi.dst v) w) : wpAnyT P md ops Q S n (fuel + 1) listed a w := by
  simp only [tailB, Bool.and_eq_true, decide_eq_true_eq] at hs
  obtain ⟨h1, h2, h3, h4, h5, h6⟩ := hs
  exact wpAnyT_first hi (Region.noSelect_spec h1) hQ h2 h3 h4 h5 fuel listed a w (headB_inv h6) (Region.free_spec hi hf) (by simpa using hr) hy hS h
def AllReadyT (P : Program) (md : Region.Mode) (ops : Array Oper) (Q : Exit → Act → World → Prop) (S : World → Prop) (n : Nat) (fuel : Nat) (listed : Array Bool) (a : Act) (w : World) (rs : List Nat) : Prop :=
  ∀ i ∈ rs, wpOp P ops Q i (fun a' w' => S w' ∧ wpAnyT P md ops Q S n fuel (listed.setIfInBounds i true) a' w') a w
theorem AllReadyT.nil {fuel : Nat} {listed : Array Bool} {a : Act} {w : World} : AllReadyT P md ops Q S n fuel listed a w [] := fun _ h => by cases h
theorem AllReadyT.cons {fuel : Nat} {listed : Array Bool} {a : Act} {w : World} {i : Nat} {o : Oper} {rs : List Nat} (ho : ops[i]? = some o)
    (h : ∀ K' : Act → World → Prop, Shut (∀ a w, S w → (S w → wpAnyT P md ops Q S n fuel (listed.setIfInBounds i true) a w) → K' a w) → if Region.wanted o (yielded ops a.tmps) = true then Oper.wp P o a w K' Q else K' (a.put o.dst undef) w)
    (hs : AllReadyT P md ops Q S n fuel listed a w rs) : AllReadyT P md ops Q S n fuel listed a w (i :: rs) := fun j hj => by
  rcases List.mem_cons.1 hj with rfl | hj
  · exact wpOp_step ho (fun K' hK => h K' (fun a w hS hW => hK a w ⟨hS, hW hS⟩))
  · exact hs j hj
theorem wpAnyT_done {listed : Array Bool} {a : Act} {w : World} (hr : Region.seqB md ops (ops.size - n) n listed = true) (h : wpList P ops Q (ops.toList.drop n) a w) : wpAnyT P md ops Q S n 0 listed a w := ⟨hr, h⟩
theorem wp_region_tail_drew (n : Nat) {id : Nat} {a : Act} {w : World} (hm : P.follows .mixedOrders = true) (hn : decide (n ≤ ops.size) = true) (hS : S w.drew)
    (h : S w.drew → wpAnyT P .any ops Q S n n (Array.replicate ops.size false) a w.drew) : (Code.region id ops true).wp P Q a w := by
  have hn' : n ≤ ops.size := by simpa using hn
  refine wp_region_any hm ?_
  have := wpAny_of_T _ _ _ _ (h hS)
  rw [show n + (ops.size - n) = ops.size by omega] at this
  exact this
end
section
variable {P : Program} {ops : Array Oper} {Q : Exit → Act → World → Prop} {md : Region.Mode} {S : World → Prop} {n : Nat}
theorem tkT {i : Nat} {oi : Oper} {v : Value} {fuel : Nat} {listed : Array Bool} {a a' : Act} {w : World} (h : wpAnyT P md ops Q S n fuel (listed.setIfInBounds i true) a' w) (hi : ops[i]? = some oi := by (simp only [List.getElem?_toArray, List.getElem?_cons_succ, List.getElem?_cons_zero]; rfl))
    (hs : tailB md ops n i listed = true := by kernel_rfl) (hf : Region.free md ops listed i = true := by kernel_rfl) (hr : (Region.ready md ops listed).contains i = true := by kernel_rfl)
    (hQ : ∀ c a w, Q (.panic c) (a.put oi.dst v) w → Q (.panic c) a w := by exact fun _ _ _ h => h) (hy : YieldsIf P ops S oi v a := by exact Or.inl ⟨by rfl, by (intro w hSw; (try dsimp only at hSw); go_simp; (try with_reducible rfl))⟩) (hS : S w := by assumption)
    (ha : a.put oi.dst v = a' := by first | (simp only [Act.put, List.setIfInBounds_toArray, List.set_cons_zero, List.set_cons_succ]; done) | (simp only [Act.put, List.setIfInBounds_toArray, List.set_cons_zero, List.set_cons_succ]; rfl) | rfl) : wpAnyT P md ops Q S n (fuel + 1) listed a w := by
  subst ha
  exact wpAnyT_take hi hs hf hr hQ hy hS h
end
end Go.Proofs.YtdmkhipimcjipaaGreat
end
section
namespace Go.Proofs.YtdmkhipimcjipaaGreat
open Go.RowKit
set_option linter.unusedVariables false
theorem step_app1 {P : Program} {w : World} {o : Oper} {a : Act} {Q : Exit → Act → World → Prop} {K : Act → World → Prop} (s x : Operand) (t : TypeId)
    (ho : o.op = .call { callee := .builtin .append, args := #[s, x], argTypes := #[t, t] })
    (base : Nat) (e : TypeId) (i : TypeInfo) (z : Value) (size bytes : Nat) (ht : P.underlying t = some (.slice e)) (hi : P.info? e = some i) (hz : i.zero = some z)
    (hsize : i.size = size) (hby : i.bytes = bytes) (hzs : z.cells.size = size) (hsz : 0 < size)
    (v : Value) (n : Nat) (xs : List Value) (hs : a.eval s = v) (hown : w.ownsRow base e size v n xs) (us : Array Value) (hus : us.size = size) (h1 : ∀ u ∈ us.toList, u.oneCell' = true)
    (H : Nat) (hx : a.eval x = .slice (some ⟨H, 0, none⟩) 1 1) (hc : ∀ j, w.cell? ⟨H, j, none⟩ = us[j]?)
    (h63 : n + 1 ≤ maxLen) (hbytes : (n + 1) * bytes ≤ 140737488355328) (hbase : base ≤ w.heap.size)
    (h : ∀ v' w', w'.ownsRow base e size v' (n + 1) (xs ++ us.toList) → w.grownBy w' v.ownBlock → (v'.ownBlock = v.ownBlock ∨ v'.ownBlock = some w.heap.size) → K (a.put o.dst v') w') :
    Oper.wp P o a w K Q := by
  obtain ⟨v', w', hrun, h2, h3, _, h5⟩ := run_append_own_at (P := P) w base t o.type e i z size bytes ht hi hz hsize hby hzs hsz v n xs hown ⟨H, 0, none⟩ 1 1 us.toList (by simp [hus]) (by
    intro j u hj
    have hadd : (⟨H, 0, none⟩ : Addr).add j = ⟨H, j, none⟩ := by unfold Addr.add; split <;> simp_all
    rw [hadd, hc j]
    simpa using hj) h1 h63 hbytes hbase
  unfold Oper.wp execOp
  simp only [ho, resolve, invoke, builtin, Sem.run_bind, Sem.run_pure, Result.andThen_ok, List.map_toArray, List.map_cons, List.map_nil, hs, hx, hrun]
  exact h v' w' h2 h3 h5
end Go.Proofs.YtdmkhipimcjipaaGreat
end
section
namespace Go.Proofs.YtdmkhipimcjipaaGreat
open Go.RowKit
set_option linter.unusedVariables false
theorem Rd.grow {B : Nat} {k : IntKind} {w W : World} {row : Option Nat} {v : Value} {zs : List Int} (h : Rd B k w v zs) (hg : w.grownBy W row) (hne : ∀ i, v.ownBlock = some i → some i ≠ row) : Rd W.heap.size k W v zs := by
  rcases h with h | ⟨b, off, cap, rfl, h2, h3, h4, h5⟩
  · exact .inl h
  · have hl := Nat.lt_of_lt_of_le h3 hg.size
    exact .inr ⟨b, off, cap, rfl, hl, hl, h4, fun j hj => (World.cell?_of_block (hg.block b h3 (hne b rfl))).trans (h5 j hj)⟩
theorem own_cap {base : Nat} {e : TypeId} {sz : Nat} {w : World} {g n cap : Nat} {xs : List Value} (h : w.ownsRow base e sz (.slice (some ⟨g, 0, none⟩) n cap) n xs) : n ≤ cap := by
  rcases h.2 with ⟨hh, _⟩ | ⟨g', cap', cur, hv, hb, hg, hn, _⟩
  · cases hh
  · cases hv
    exact hn
end Go.Proofs.YtdmkhipimcjipaaGreat
end
section
namespace Go.Proofs.YtdmkhipimcjipaaGreat
open Go.RowKit
set_option linter.unusedVariables false
set_option linter.unusedSimpArgs false
set_option maxHeartbeats 1600000 in
set_option maxRecDepth 100000 in
theorem l13Copy_any {B : Nat} (v : Value) (fs : List F2) (w : World) (hr : RdF B w v fs) (hn : fs.length ≤ 1000) (hm : tot fs ≤ 4294967296) :
    Calls Tryz.prog 34 #[v] w fun e w' => ∃ v', e = .returned v' ∧ OwnF w.heap.size w' v' fs ∧ Below w.heap.size w w' := by
  obtain ⟨ti, hi, hz0, hz1, hz2⟩ := info_parts Tryz.infoFun
  obtain ⟨to, oi, oz0, oz1, oz2⟩ := info_parts Tryz.infoOp2
  have HR := Lib.hid (fun (W : World) (hb : Below w.heap.size w W) => hr.below' hb)
  obtain ⟨fa, fc, rfl⟩ := hr.form
  clear hr
  go_enter Tryz.func34, Tryz.ntmps34
  go_wp2_with fail
  generalize hz : w.alloc _ = z
  have hown : OwnH w.heap.size z.heap.size z (.slice (some ⟨w.heap.size, 0, none⟩) 0 0) [] := by
    subst hz
    exact OwnH.nil (own_empty rfl (Nat.le_refl _)) (fun q hq => by cases hq; simp)
  obtain ⟨bz, _⟩ := Bx.alloc hz
  clear hz
  go_loopw [3, 4] (fun s t wr => ∃ (k : Nat), k ≤ fs.length ∧ t = .int .i64 k ∧ Below w.heap.size w wr ∧ OwnH w.heap.size wr.heap.size wr s (fs.take k)) (fun _ t _ => fs.length - (intOf t).toNat)
  case atStart => exact ⟨0, Nat.zero_le _, rfl, bz, by simpa using hown⟩
  case round =>
    clear bz hown
    obtain ⟨k, hk, rfl, bb, hown⟩ := hrel
    by_cases hlt : k < fs.length
    · obtain ⟨b, off, cap', lv, hs, hB, hbs, hcap, c0, c1, ro⟩ := (HR.out _ bb).at_ hlt
      cases hs
      obtain ⟨la, lc, rfl⟩ := ro.form
      have hmem := tot_mem (List.getElem_mem hlt)
      have hki : (k : Int) < (fs.length : Int) := by omega
      obtain ⟨va, vc, hv⟩ := hown.form
      have htl : (fs.take k).length = k := by rw [List.length_take]; omega
      rw [htl] at hv
      subst hv
      go_wp2_with fail
      refine wp_region_held_drew (S := (fun w' => w'.cell? ⟨b, off + k * 2, none⟩ = some (.int .i64 fs[k].f) ∧ w'.cell? ⟨b, off + k * 2 + 1, none⟩ = some (.slice la fs[k].os.length lc))) (by kernel_rfl) (by first | (dsimp only; exact ⟨c0, c1⟩) | (exact ⟨c0, c1⟩)) (fun hHeld => ?_)
      refine tkH (i := 0) ?_
      refine tkH (i := 1) ?_
      refine tkH (i := 2) ?_
      refine tkH (i := 3) ?_
      refine tkH (i := 4) ?_
      refine tkH (i := 5) ?_
      refine tkH (i := 7) ?_
      refine tkH (i := 8) ?_
      refine tkH (i := 9) ?_
      refine tkH (i := 10) ?_
      refine tkH (i := 11) ?_
      generalize hxd : wr.drew = x1 at hHeld
      have hd : Below wr.heap.size wr x1 := by rw [← hxd]; exact (Below.refl _ _).drew
      replace hown := hown.same (w' := x1) (fun q _ hq => hd.block q hq)
      have hx1 := hd.size
      have hbx1 : b < x1.heap.size := by omega
      have rox := RdE.below' ro hd
      clear hxd
      refine rdH (i := 6) (fun K hK => ?_)
      go_simp
      generalize hy0 : x1.alloc _ = x2
      have hnew : x2.heap[x1.heap.size]? = some (.cells #[] 50 (0, 0)) := by rw [← hy0]; exact heap_alloc_new x1 _
      have hb2 : Below x1.heap.size x1 x2 := by rw [← hy0]; exact (Below.refl _ _).alloc (Nat.le_refl _) _
      clear hy0
      refine bkH hK (by first | (dsimp only; exact ⟨(hb2.cell (by dsimp only; omega)).trans hHeld.1, (hb2.cell (by dsimp only; omega)).trans hHeld.2⟩) | (exact ⟨(hb2.cell (by dsimp only; omega)).trans hHeld.1, (hb2.cell (by dsimp only; omega)).trans hHeld.2⟩)) (fun hHeld => ?_)
      clear hK K
      replace hown := hown.same (w' := x2) (fun q _ hq => hb2.block q (Nat.lt_of_lt_of_le hq hx1))
      refine wpAnyH_ready (rs := [12]) (by kernel_rfl) (by simp) ?_
      refine AllReadyH.cons (by (simp only [List.getElem?_toArray, List.getElem?_cons_succ, List.getElem?_cons_zero]; rfl)) (fun K hK => ?_) AllReadyH.nil
      rw [if_pos (by rfl)]
      refine step_copyE (enc := O3.enc) _ _ 46 rfl x1.heap.size 50 to (.agg #[.int .i64 0, .int .i64 0, .int .i64 0]) 3 24 Tryz.underlying46 oi oz0 oz1 oz2 rfl (by decide) (fun x => rfl) (fun x u hu => by simp [O3.enc] at hu; rcases hu with rfl | rfl | rfl <;> rfl) x1.heap.size rfl hnew (Nat.le_refl _) _ fs[k].os rfl (RdE.below' rox hb2) (by omega) (by decide) ?_
      intro u w2 ou gu altu
      obtain ⟨ua, uc, rfl⟩ := own_form ou
      have bgu := Below.of_grown gu hb2.size (fun q hq => by have := Option.some.inj hq; omega)
      have bx : Below wr.heap.size wr w2 := hd.trans ((hb2.trans bgu).mono hx1)
      replace hown := hown.same (w' := w2) (fun q _ hq => bgu.block q (Nat.lt_of_lt_of_le hq hx1))
      have hx2 := bx.size
      have hul : ∀ q, (Value.slice ua fs[k].os.length uc).ownBlock = some q → wr.heap.size ≤ q := fun q hq => by have := (ou.lt q hq).1; omega
      have hS2 : w2.cell? ⟨b, off + k * 2, none⟩ = some (.int .i64 fs[k].f) ∧ w2.cell? ⟨b, off + k * 2 + 1, none⟩ = some (.slice la fs[k].os.length lc) := ⟨(bx.cell (by dsimp only; omega)).trans c0, (bx.cell (by dsimp only; omega)).trans c1⟩
      refine hK.out _ _ (by first | (dsimp only; exact hS2) | exact hS2) (fun hHeld => ?_)
      clear hK K gu altu bgu hnew hb2 rox hbx1 hd
      try simp only [Act.put, List.setIfInBounds_toArray, List.set_cons_zero, List.set_cons_succ]
      refine tkH (i := 13) ?_
      refine rdH (i := 14) (fun K hK => ?_)
      go_simp
      generalize hy : w2.alloc _ = w3
      obtain ⟨b3, k3⟩ := Bx.alloc hy
      refine bkH hK (by first | (dsimp only; exact ⟨(b3.cell (by dsimp only; omega)).trans hHeld.1, (b3.cell (by dsimp only; omega)).trans hHeld.2⟩) | (exact ⟨(b3.cell (by dsimp only; omega)).trans hHeld.1, (b3.cell (by dsimp only; omega)).trans hHeld.2⟩)) (fun hHeld => ?_)
      clear hK K
      refine wpAnyH_ready (rs := [15]) (by kernel_rfl) (by simp) ?_
      refine AllReadyH.cons (by (simp only [List.getElem?_toArray, List.getElem?_cons_succ, List.getElem?_cons_zero]; rfl)) (fun K hK => ?_) AllReadyH.nil
      rw [if_pos (by rfl)]
      obtain ⟨xs, hrow, hrb⟩ := hown.row
      have hrow2 := hrow
      rw [htl] at hrow2
      refine step_app1 _ _ 30 rfl w.heap.size 48 ti (.agg #[.int .i64 0, .slice none 0 0]) 2 32 Tryz.underlying30 hi hz0 hz1 hz2 rfl (by decide) _ _ _ rfl (own_below hrow2 b3 (own_lt hrow2)) #[.int .i64 fs[k].f, .slice ua fs[k].os.length uc] rfl ?_ w2.heap.size rfl ?_ ?_ ?_ ?_ ?_
      · simp [Value.oneCell']
      · exact k3.2.1
      · unfold maxLen; omega
      · omega
      · have := bb.size; have := b3.size; omega
      · intro v3 w4 o3 g3 alt
        have g2 : w2.grownBy w4 (Value.slice va k vc).ownBlock := by
          have := World.grownBy_alloc w2 (.cells #[.int .i64 fs[k].f, .slice ua fs[k].os.length uc] 48) (Value.slice va k vc).ownBlock
          rw [hy] at this
          exact this.trans' g3
        have hbs0 := bb.size
        have hw3 : w3.heap.size = w2.heap.size + 1 := by rw [← hy, World.size_alloc]
        have hown3 := OwnH.snoc (x := fs[k]) hown (own_base ou (show w.heap.size ≤ x1.heap.size by omega)) hul (by omega) g2 (fun ys hy => by rw [htl]; exact (own_uniq hy hrow) ▸ o3) (by rw [← hw3]; exact alt)
        rw [List.take_append_getElem hlt] at hown3
        have K6 : w4.cell? ⟨b, off + k * 2, none⟩ = some (.int .i64 fs[k].f) ∧ w4.cell? ⟨b, off + k * 2 + 1, none⟩ = some (.slice la fs[k].os.length lc) := by
          have hb3s := b3.size
          have hne : ∀ q, (Value.slice va k vc).ownBlock = some q → q ≠ b := fun q hq => by have := (hrb q hq).1; omega
          exact ⟨(World.cell?_of_block (a := ⟨b, _, none⟩) (g3.block b (by omega) (fun e => hne b e.symm rfl))).trans ((b3.cell (by dsimp only; omega)).trans hS2.1), (World.cell?_of_block (a := ⟨b, _, none⟩) (g3.block b (by omega) (fun e => hne b e.symm rfl))).trans ((b3.cell (by dsimp only; omega)).trans hS2.2)⟩
        have BB := Lib.hid (bb.trans (((bx.trans (b3.mono bx.size)).mono bb.size).trans (Below.of_grown g3 (by have := b3.size; omega) (fun q hq => (hrb q hq).1))))
        have H3 := Lib.hid hown3
        refine hK.out _ _ (by first | (dsimp only; exact K6) | (exact K6)) (fun hHeld => ?_)
        clear hK K K6 hown3 g2 g3 alt o3 hrow hrow2 hrb hy b3 k3 hown ou hul bx bb ro hS2
        try simp only [Act.put, List.setIfInBounds_toArray, List.set_cons_zero, List.set_cons_succ]
        refine tkH (i := 16) ?_
        refine wpAnyH_done (by kernel_rfl) ?_ _
        go_wp2
        go_roundw
        case rel => exact ⟨k + 1, hlt, by go_num, BB.out, H3.out⟩
        case measure => simp [intOf]; omega
    · have hki : ¬ ((k : Int) < (fs.length : Int)) := by omega
      obtain rfl : k = fs.length := by omega
      rw [List.take_length] at hown
      go_wp2
      go_ret
      exact ⟨_, rfl, hown.to_f, bb⟩
end Go.Proofs.YtdmkhipimcjipaaGreat
end
section
namespace Go.Proofs.YtdmkhipimcjipaaGreat
open Go.RowKit
set_option linter.unusedVariables false
def putN (n : Nat) : List Int := if 127 < n then ((n % 128 + 128 : Nat) : Int) :: putN (n / 128) else [(n : Int)]
termination_by n
decreasing_by omega
theorem putN_big {n : Nat} (h : 127 < n) : putN n = ((n % 128 + 128 : Nat) : Int) :: putN (n / 128) := by rw [putN, if_pos h]
theorem putN_small {n : Nat} (h : ¬ 127 < n) : putN n = [(n : Int)] := by rw [putN, if_neg h]
def putNum (n : Int) : List Int := if inB n 0 2147483647 then putN n.toNat else []
theorem Tryz.infoU8 : (Tryz.prog.info? 5).map (fun i => (i.zero, i.size, i.bytes)) = some (some (.int .u8 0), 1, 1) := by kernel_rfl
set_option maxHeartbeats 400000 in
set_option maxRecDepth 100000 in
theorem iPutNum_any (n : Int) (w : World) :
    Calls Tryz.prog 6 #[.int .i64 n] w fun e w' => ∃ v, e = .returned v ∧ w'.ownsRow w.heap.size 5 1 v (putNum n).length ((putNum n).map (Value.int .u8)) ∧ Below w.heap.size w w' := by
  cases hw : inB n 0 2147483647
  · have he : putNum n = [] := by simp [putNum, hw]
    have HE := Lib.hid he
    clear he
    go_enter Tryz.func6, Tryz.ntmps6
    go_wp2_with (go_at_call 21; refine (within_any _ _ _ _).mono ?_; rintro e w' ⟨rfl, rfl⟩)
    go_ret
    rw [HE.out]
    exact ⟨_, rfl, World.ownsRow_nil _ _ _ _, Below.refl _ _⟩
  · obtain ⟨h0, h1⟩ := inB_true.1 hw
    have he : putNum n = putN n.toNat := by simp [putNum, hw]
    have HE := Lib.hid he
    clear he
    obtain ⟨i0, hi, hz0, hz1, hz2⟩ := info_parts Tryz.infoU8
    go_enter Tryz.func6, Tryz.ntmps6
    go_wp2_with (go_at_call 21; refine (within_any _ _ _ _).mono ?_; rintro e w' ⟨rfl, rfl⟩)
    go_loopw [0, 3] (fun q v wr => ∃ (m : Nat) (acc : List Int), m ≤ 2147483647 ∧ q = .int .i64 m ∧ wr.ownsRow w.heap.size 5 1 v acc.length (acc.map (Value.int .u8)) ∧ Hid (acc ++ putN m = putN n.toNat) ∧ acc.length + m ≤ 2147483647 ∧ Below w.heap.size w wr) (fun q _ _ => (intOf q).toNat)
    case atStart => exact ⟨n.toNat, [], by omega, by go_num, by simpa using World.ownsRow_made w #[] 0 (Nat.le_refl _) (by simp) rfl, by show _ = _; simp, by simp; omega, (Below.refl _ _).alloc (Nat.le_refl _) _⟩
    case round =>
      obtain ⟨m, acc, hm, rfl, ho, hp, hl, hb⟩ := hrel
      have hbs := hb.size
      by_cases hlt : 127 < m
      · go_wp2_with (at_builtin; refine wpList_app1 rfl _ _ 22 rfl w.heap.size 5 i0 (.int .u8 0) 1 1 Tryz.underlying22 hi hz0 hz1 hz2 rfl (by decide) _ _ _ rfl ho #[_] rfl ?_ rfl ?_ ?_ ?_ ?_)
        · rfl
        · unfold maxLen; omega
        · omega
        · omega
        · intro v' w1 ho' hg _
          have hb' := hb.grown hg (by omega) (fun k hk => (ho.lt k hk).1)
          have R : w1.ownsRow w.heap.size 5 1 v' (acc ++ [((m % 128 + 128 : Nat) : Int)]).length ((acc ++ [((m % 128 + 128 : Nat) : Int)]).map (Value.int .u8)) ∧ Hid ((acc ++ [((m % 128 + 128 : Nat) : Int)]) ++ putN (m / 128) = putN n.toNat) := by
            refine ⟨by simpa using ho', ?_⟩
            show _ = _
            rw [← hp.out, putN_big hlt]
            simp
          clear ho' hg hb ho hp
          go_wp2
          go_roundw
          case rel => exact ⟨m / 128, _, by omega, by go_num, R.1, R.2, by simp; omega, hb'⟩
          case measure => simp [intOf]; omega
      · go_wp2_with (at_builtin; refine wpList_app1 rfl _ _ 22 rfl w.heap.size 5 i0 (.int .u8 0) 1 1 Tryz.underlying22 hi hz0 hz1 hz2 rfl (by decide) _ _ _ rfl ho #[_] rfl ?_ rfl ?_ ?_ ?_ ?_)
        · rfl
        · unfold maxLen; omega
        · omega
        · omega
        · intro v' w1 ho' hg _
          have hb' := hb.grown hg (by omega) (fun k hk => (ho.lt k hk).1)
          have R : w1.ownsRow w.heap.size 5 1 v' (putN n.toNat).length ((putN n.toNat).map (Value.int .u8)) := by
            rw [← hp.out, putN_small hlt]
            simpa using ho'
          clear ho' hg hb ho hp
          go_wp2
          go_ret
          rw [HE.out]
          exact ⟨_, rfl, R, hb'⟩
set_option maxHeartbeats 400000 in
set_option maxRecDepth 100000 in
theorem sPutNum_any (n : Int) (w : World) :
    Calls Tryz.prog 8 #[.int .i64 n] w fun e w' => ∃ v, e = .returned v ∧ w'.ownsRow w.heap.size 5 1 v (putNum n).length ((putNum n).map (Value.int .u8)) ∧ Below w.heap.size w w' := by
  cases hw : inB n 0 2147483647
  · have he : putNum n = [] := by simp [putNum, hw]
    have HE := Lib.hid he
    clear he
    go_enter Tryz.func8, Tryz.ntmps8
    go_wp2_with (go_at_call 22; refine (l1In_any _ _ _ _).mono ?_; rintro e w' ⟨rfl, rfl⟩)
    go_ret
    rw [HE.out]
    exact ⟨_, rfl, by simpa using World.ownsRow_made w #[] 0 (Nat.le_refl _) (by simp) rfl, (Below.refl _ _).alloc (Nat.le_refl _) _⟩
  · obtain ⟨h0, h1⟩ := inB_true.1 hw
    have he : putNum n = putN n.toNat := by simp [putNum, hw]
    have HE := Lib.hid he
    clear he
    obtain ⟨i0, hi, hz0, hz1, hz2⟩ := info_parts Tryz.infoU8
    go_enter Tryz.func8, Tryz.ntmps8
    go_wp2_with (go_at_call 22; refine (l1In_any _ _ _ _).mono ?_; rintro e w' ⟨rfl, rfl⟩)
    go_loopw [0, 3] (fun q v wr => ∃ (m : Nat) (acc : List Int), m ≤ 2147483647 ∧ q = .int .i64 m ∧ wr.ownsRow w.heap.size 5 1 v acc.length (acc.map (Value.int .u8)) ∧ Hid (acc ++ putN m = putN n.toNat) ∧ acc.length + m ≤ 2147483647 ∧ Below w.heap.size w wr) (fun q _ _ => (intOf q).toNat)
    case atStart => exact ⟨n.toNat, [], by omega, by go_num, by simpa using World.ownsRow_made w #[] 0 (Nat.le_refl _) (by simp) rfl, by show _ = _; simp, by simp; omega, (Below.refl _ _).alloc (Nat.le_refl _) _⟩
    case round =>
      obtain ⟨m, acc, hm, rfl, ho, hp, hl, hb⟩ := hrel
      have hbs := hb.size
      by_cases hlt : 127 < m
      · go_wp2_with (at_builtin; refine wpList_app1 rfl _ _ 22 rfl w.heap.size 5 i0 (.int .u8 0) 1 1 Tryz.underlying22 hi hz0 hz1 hz2 rfl (by decide) _ _ _ rfl ho #[_] rfl ?_ rfl ?_ ?_ ?_ ?_)
        · rfl
        · unfold maxLen; omega
        · omega
        · omega
        · intro v' w1 ho' hg _
          have hb' := hb.grown hg (by omega) (fun k hk => (ho.lt k hk).1)
          have R : w1.ownsRow w.heap.size 5 1 v' (acc ++ [((m % 128 + 128 : Nat) : Int)]).length ((acc ++ [((m % 128 + 128 : Nat) : Int)]).map (Value.int .u8)) ∧ Hid ((acc ++ [((m % 128 + 128 : Nat) : Int)]) ++ putN (m / 128) = putN n.toNat) := by
            refine ⟨by simpa using ho', ?_⟩
            show _ = _
            rw [← hp.out, putN_big hlt]
            simp
          clear ho' hg hb ho hp
          go_wp2
          go_roundw
          case rel => exact ⟨m / 128, _, by omega, by go_num, R.1, R.2, by simp; omega, hb'⟩
          case measure => simp [intOf]; omega
      · go_wp2_with (at_builtin; refine wpList_app1 rfl _ _ 22 rfl w.heap.size 5 i0 (.int .u8 0) 1 1 Tryz.underlying22 hi hz0 hz1 hz2 rfl (by decide) _ _ _ rfl ho #[_] rfl ?_ rfl ?_ ?_ ?_ ?_)
        · rfl
        · unfold maxLen; omega
        · omega
        · omega
        · intro v' w1 ho' hg _
          have hb' := hb.grown hg (by omega) (fun k hk => (ho.lt k hk).1)
          have R : w1.ownsRow w.heap.size 5 1 v' (putN n.toNat).length ((putN n.toNat).map (Value.int .u8)) := by
            rw [← hp.out, putN_small hlt]
            simpa using ho'
          clear ho' hg hb ho hp
          go_wp2
          go_ret
          rw [HE.out]
          exact ⟨_, rfl, R, hb'⟩
end Go.Proofs.YtdmkhipimcjipaaGreat
end
section
namespace Go.Proofs.YtdmkhipimcjipaaGreat
set_option linter.unusedVariables false
def hKids (x : Int) : Int := x / 2 / 2 % 64
def hK (x : Int) : Nat := (hKids x).toNat
end Go.Proofs.YtdmkhipimcjipaaGreat
end
section
namespace Go.Proofs.YtdmkhipimcjipaaGreat
open Go.RowKit
set_option linter.unusedVariables false
set_option linter.unusedSimpArgs false
def opOk (fs : List F2) (i : Nat) (o : O3) : Bool :=
  let e : Int := ((fs.getD i ⟨0, []⟩).os.length : Int) - 1
  if o.c = 1 then wordB o.n && (o.m == 0)
  else if o.c = 2 then inB o.n 0 2999 && (o.m == 0)
  else if o.c = 3 then inB o.n 0 ((fs.getD i ⟨0, []⟩).f - 1) && (o.m == 0)
  else if o.c = 4 then (decide (0 < (i : Int)) && (o.n == 0)) && (o.m == 0)
  else if o.c = 5 then inB o.n 1 ((fs.length : Int) - 1) && (o.m == (fs.getD o.n.toNat ⟨0, []⟩).f)
  else if o.c = 8 then inB o.n 0 59 && inB o.m 0 20
  else if o.c = 9 then inB o.n 0 59 && (o.m == 0)
  else if o.c = 10 then inB o.n 0 59 && inB o.m 0 e
  else if o.c = 11 then wordB o.n && inB o.m 0 e
  else if o.c = 18 ∨ o.c = 19 then inB o.n 0 e && (o.m == 0)
  else (inB o.c 1 21 && (o.n == 0)) && (o.m == 0)
def opG (len e f g i c n m : Int) : Bool :=
  if c = 1 then wordB n && (m == 0)
  else if c = 2 then inB n 0 2999 && (m == 0)
  else if c = 3 then inB n 0 (f - 1) && (m == 0)
  else if c = 4 then (decide (0 < i) && (n == 0)) && (m == 0)
  else if c = 5 then inB n 1 (len - 1) && (m == g)
  else if c = 8 then inB n 0 59 && inB m 0 20
  else if c = 9 then inB n 0 59 && (m == 0)
  else if c = 10 then inB n 0 59 && inB m 0 (e - 1)
  else if c = 11 then wordB n && inB m 0 (e - 1)
  else if c = 18 ∨ c = 19 then inB n 0 (e - 1) && (m == 0)
  else (inB c 1 21 && (n == 0)) && (m == 0)
theorem l13Tag_any (n : Int) (w : World) :
    Calls Tryz.prog 40 #[.int .i64 n] w fun e w' => e = .returned (.bool (inB n 0 59)) ∧ w = w' := by
  go_enter Tryz.func40, Tryz.ntmps40
  go_wp2_with (go_at_call 22; refine (l1In_any _ _ _ _).mono ?_; rintro e w' ⟨rfl, rfl⟩)
  go_ret
  exact ⟨rfl, rfl⟩
set_option maxHeartbeats 1600000 in
set_option maxRecDepth 100000 in
theorem iOpOk_any {B : Nat} (v : Value) (fs : List F2) (i : Nat) (o : O3) (w : World) (hr : RdF B w v fs) (hi : i < fs.length) (ho : o3In o) (hfr : 0 ≤ fs[i].f ∧ fs[i].f ≤ 20) (hn : fs.length ≤ 60) (hm : fs[i].os.length ≤ 3000) :
    Calls Tryz.prog 27 #[v, .int .i64 i, .agg #[.int .i64 o.c, .int .i64 o.n, .int .i64 o.m]] w fun e w' => e = .returned (.bool (opOk fs i o)) ∧ Below w.heap.size w w' := by
  obtain ⟨c, n, m⟩ := o
  obtain ⟨⟨hc0, hc1⟩, ⟨hn0, hn1⟩, ⟨hm0, hm1⟩⟩ := ho
  dsimp only at hc0 hc1 hn0 hn1 hm0 hm1 ⊢
  have hgi : fs.getD i ⟨0, []⟩ = fs[i] := by rw [List.getD_eq_getElem?_getD, List.getElem?_eq_getElem hi]; rfl
  have hil : (i : Int) < (fs.length : Int) := by omega
  have HR5 := Lib.hid (fun (k : Nat) (hk : k < fs.length) => hr.at_ hk)
  obtain ⟨b, off, cap, lv, rfl, hB, hbs, hcap, q0, q1, ro⟩ := hr.at_ hi
  obtain ⟨la, lc, rfl⟩ := ro.form
  have bx : Below w.heap.size w (w.alloc (.cells #[.int .i64 c, .int .i64 n, .int .i64 m] 50)) := (Below.refl _ _).alloc (Nat.le_refl _) _
  obtain ⟨F, hF⟩ : ∃ F, fs[i].f = F := ⟨_, rfl⟩
  obtain ⟨E, hE⟩ : ∃ E, fs[i].os.length = E := ⟨_, rfl⟩
  rw [hE] at hm q1
  rw [hF] at q0 hfr
  have hop : opOk fs i ⟨c, n, m⟩ = opG (fs.length : Int) (E : Int) F (fs.getD n.toNat ⟨0, []⟩).f (i : Int) c n m := by
    unfold opOk opG
    dsimp only
    rw [hgi, hF, hE]
  rw [hop]
  obtain ⟨G, hG⟩ : ∃ G, (fs.getD n.toNat ⟨0, []⟩).f = G := ⟨_, rfl⟩
  rw [hG]
  have HG := Lib.hid hG
  have e0 : IntKind.i64.wrap ((E : Int) - 1) = (E : Int) - 1 := IntWalk.i64_in _ (by omega)
  have e1 : IntKind.i64.wrap (F - 1) = F - 1 := IntWalk.i64_in _ (by omega)
  have e2 : IntKind.i64.wrap ((fs.length : Int) - 1) = (fs.length : Int) - 1 := IntWalk.i64_in _ (by omega)
  have HW := Lib.hid (fun (a b c : Int) (W : World) => (within_any a b c W).mono (fun e w' h => And.intro h.1 h.2.symm))
  clear hr hgi hop hG hF hE ro
  by_cases hk1 : c = 1
  · subst hk1
    obtain ⟨q3, hq3⟩ : ∃ q, wordB n = q := ⟨_, rfl⟩
    cases q3
    all_goals go_enter Tryz.func27, Tryz.ntmps27
    all_goals go_wp2_with (first | (go_at_call 21; refine (within_any _ _ _ _).mono ?_; simp only [hq3]; rintro e w' ⟨rfl, rfl⟩) | (go_at_call 36; refine (iWordOk_any _ _).mono ?_; simp only [hq3]; rintro e w' ⟨rfl, rfl⟩))
    all_goals go_ret
    all_goals exact ⟨ret_bool (by first | (simp [opG, hq3]; done) | (simp_all [opG]; done)), by first | exact bx | exact (Below.refl _ _).alloc (Nat.le_refl _) _ | exact below_drewN ((Below.refl _ _).alloc (Nat.le_refl _) _) _⟩
  by_cases hk2 : c = 2
  · subst hk2
    obtain ⟨q3, hq3⟩ : ∃ q, inB n 0 2999 = q := ⟨_, rfl⟩
    cases q3
    all_goals go_enter Tryz.func27, Tryz.ntmps27
    all_goals go_wp2_with (first | (go_at_call 21; refine (within_any _ _ _ _).mono ?_; simp only [hq3]; rintro e w' ⟨rfl, rfl⟩) | (go_at_call 36; refine (iWordOk_any _ _).mono ?_; simp only [hq3]; rintro e w' ⟨rfl, rfl⟩))
    all_goals go_ret
    all_goals exact ⟨ret_bool (by first | (simp [opG, hq3]; done) | (simp_all [opG]; done)), by first | exact bx | exact (Below.refl _ _).alloc (Nat.le_refl _) _ | exact below_drewN ((Below.refl _ _).alloc (Nat.le_refl _) _) _⟩
  by_cases hk3 : c = 3
  · subst hk3
    obtain ⟨q3, hq3⟩ : ∃ q, inB n 0 (F - 1) = q := ⟨_, rfl⟩
    cases q3
    all_goals have HQ3 := Lib.hid (fun (W : World) => (by have := HW.out n 0 (F - 1) W; rw [hq3] at this; exact this : Calls Tryz.prog 21 #[.int .i64 n, .int .i64 0, .int .i64 (F - 1)] W _))
    all_goals go_enter Tryz.func27, Tryz.ntmps27
    all_goals go_wp2_with fail
    all_goals go_quiet ((go_at_call 21; exact Calls.quiet_of_same (HQ3.out _)))
    all_goals go_wp2
    all_goals go_ret
    all_goals exact ⟨ret_bool (by first | (simp [opG, hq3]; done) | (simp_all [opG]; done)), by first | exact bx | exact (Below.refl _ _).alloc (Nat.le_refl _) _ | exact below_drewN ((Below.refl _ _).alloc (Nat.le_refl _) _) _⟩
  by_cases hk4 : c = 4
  · subst hk4
    all_goals go_enter Tryz.func27, Tryz.ntmps27
    all_goals go_wp2_with (first | (go_at_call 21; refine (within_any _ _ _ _).mono ?_; simp only [Bool.true_and]; rintro e w' ⟨rfl, rfl⟩) | (go_at_call 36; refine (iWordOk_any _ _).mono ?_; simp only [Bool.true_and]; rintro e w' ⟨rfl, rfl⟩))
    all_goals go_ret
    all_goals exact ⟨ret_bool (by first | (simp [opG, Bool.true_and]; done) | (simp_all [opG]; done)), by first | exact bx | exact (Below.refl _ _).alloc (Nat.le_refl _) _ | exact below_drewN ((Below.refl _ _).alloc (Nat.le_refl _) _) _⟩
  by_cases hk5 : c = 5
  · subst hk5
    obtain ⟨q3, hq3⟩ : ∃ q, inB n 1 ((fs.length : Int) - 1) = q := ⟨_, rfl⟩
    cases q3
    · have HQ3 := Lib.hid (fun (W : World) => (by have := HW.out n 1 ((fs.length : Int) - 1) W; rw [hq3] at this; exact this : Calls Tryz.prog 21 #[.int .i64 n, .int .i64 1, .int .i64 ((fs.length : Int) - 1)] W _))
      go_enter Tryz.func27, Tryz.ntmps27
      go_wp2_with fail
      go_quiet ((go_at_call 21; exact Calls.quiet_of_same (HQ3.out _)))
      go_wp2
      all_goals go_ret
      all_goals exact ⟨ret_bool (by first | (simp [opG, hq3]; done) | (simp_all [opG]; done)), by first | exact bx | exact (Below.refl _ _).alloc (Nat.le_refl _) _ | exact below_drewN ((Below.refl _ _).alloc (Nat.le_refl _) _) _⟩
    · have hb5 := inB_true.1 hq3
      obtain ⟨kn, rfl⟩ : ∃ k : Nat, n = (k : Int) := ⟨n.toNat, by omega⟩
      have hkn : kn < fs.length := by omega
      obtain ⟨b', off', cap', lv', hs', _, _, _, c5, _, _⟩ := HR5.out kn hkn
      cases hs'
      have hgg := HG.out
      rw [Int.toNat_natCast, List.getD_eq_getElem?_getD, List.getElem?_eq_getElem hkn] at hgg
      change fs[kn].f = G at hgg
      rw [hgg] at c5
      have hkl : (kn : Int) < (fs.length : Int) := by omega
      have hk0 : (0 : Int) ≤ (kn : Int) := by omega
      clear hgg hb5
      have HQ3 := Lib.hid (fun (W : World) => (by have := HW.out (kn : Int) 1 ((fs.length : Int) - 1) W; rw [hq3] at this; exact this : Calls Tryz.prog 21 #[.int .i64 (kn : Int), .int .i64 1, .int .i64 ((fs.length : Int) - 1)] W _))
      go_enter Tryz.func27, Tryz.ntmps27
      go_wp2_with fail
      go_quiet ((go_at_call 21; exact Calls.quiet_of_same (HQ3.out _)))
      go_wp2
      all_goals go_ret
      all_goals exact ⟨ret_bool (by first | (simp [opG, hq3]; done) | (simp_all [opG]; done)), by first | exact bx | exact (Below.refl _ _).alloc (Nat.le_refl _) _ | exact below_drewN ((Below.refl _ _).alloc (Nat.le_refl _) _) _⟩
  by_cases hk8 : c = 8
  · subst hk8
    obtain ⟨q3, hq3⟩ : ∃ q, inB n 0 59 = q := ⟨_, rfl⟩
    obtain ⟨q4, hq4⟩ : ∃ q, inB m 0 20 = q := ⟨_, rfl⟩
    cases q3
    all_goals cases q4
    all_goals go_enter Tryz.func27, Tryz.ntmps27
    all_goals go_wp2_with (first | (go_at_call 21; refine (within_any _ _ _ _).mono ?_; simp only [hq3, hq4]; rintro e w' ⟨rfl, rfl⟩) | (go_at_call 36; refine (iWordOk_any _ _).mono ?_; simp only [hq3, hq4]; rintro e w' ⟨rfl, rfl⟩))
    all_goals go_ret
    all_goals exact ⟨ret_bool (by first | (simp [opG, hq3, hq4]; done) | (simp_all [opG]; done)), by first | exact bx | exact (Below.refl _ _).alloc (Nat.le_refl _) _ | exact below_drewN ((Below.refl _ _).alloc (Nat.le_refl _) _) _⟩
  by_cases hk9 : c = 9
  · subst hk9
    obtain ⟨q3, hq3⟩ : ∃ q, inB n 0 59 = q := ⟨_, rfl⟩
    cases q3
    all_goals go_enter Tryz.func27, Tryz.ntmps27
    all_goals go_wp2_with (first | (go_at_call 21; refine (within_any _ _ _ _).mono ?_; simp only [hq3]; rintro e w' ⟨rfl, rfl⟩) | (go_at_call 36; refine (iWordOk_any _ _).mono ?_; simp only [hq3]; rintro e w' ⟨rfl, rfl⟩))
    all_goals go_ret
    all_goals exact ⟨ret_bool (by first | (simp [opG, hq3]; done) | (simp_all [opG]; done)), by first | exact bx | exact (Below.refl _ _).alloc (Nat.le_refl _) _ | exact below_drewN ((Below.refl _ _).alloc (Nat.le_refl _) _) _⟩
  by_cases hk10 : c = 10
  · subst hk10
    obtain ⟨q3, hq3⟩ : ∃ q, inB n 0 59 = q := ⟨_, rfl⟩
    obtain ⟨q4, hq4⟩ : ∃ q, inB m 0 ((E : Int) - 1) = q := ⟨_, rfl⟩
    cases q3
    all_goals cases q4
    all_goals go_enter Tryz.func27, Tryz.ntmps27
    all_goals go_wp2_with (first | (go_at_call 21; refine (within_any _ _ _ _).mono ?_; simp only [hq3, hq4]; rintro e w' ⟨rfl, rfl⟩) | (go_at_call 36; refine (iWordOk_any _ _).mono ?_; simp only [hq3, hq4]; rintro e w' ⟨rfl, rfl⟩))
    all_goals go_ret
    all_goals exact ⟨ret_bool (by first | (simp [opG, hq3, hq4]; done) | (simp_all [opG]; done)), by first | exact bx | exact (Below.refl _ _).alloc (Nat.le_refl _) _ | exact below_drewN ((Below.refl _ _).alloc (Nat.le_refl _) _) _⟩
  by_cases hk11 : c = 11
  · subst hk11
    obtain ⟨q3, hq3⟩ : ∃ q, wordB n = q := ⟨_, rfl⟩
    obtain ⟨q4, hq4⟩ : ∃ q, inB m 0 ((E : Int) - 1) = q := ⟨_, rfl⟩
    cases q3
    all_goals cases q4
    all_goals go_enter Tryz.func27, Tryz.ntmps27
    all_goals go_wp2_with (first | (go_at_call 21; refine (within_any _ _ _ _).mono ?_; simp only [hq3, hq4]; rintro e w' ⟨rfl, rfl⟩) | (go_at_call 36; refine (iWordOk_any _ _).mono ?_; simp only [hq3, hq4]; rintro e w' ⟨rfl, rfl⟩))
    all_goals go_ret
    all_goals exact ⟨ret_bool (by first | (simp [opG, hq3, hq4]; done) | (simp_all [opG]; done)), by first | exact bx | exact (Below.refl _ _).alloc (Nat.le_refl _) _ | exact below_drewN ((Below.refl _ _).alloc (Nat.le_refl _) _) _⟩
  by_cases hk18 : c = 18
  · subst hk18
    obtain ⟨q3, hq3⟩ : ∃ q, inB n 0 ((E : Int) - 1) = q := ⟨_, rfl⟩
    cases q3
    all_goals go_enter Tryz.func27, Tryz.ntmps27
    all_goals go_wp2_with (first | (go_at_call 21; refine (within_any _ _ _ _).mono ?_; simp only [hq3]; rintro e w' ⟨rfl, rfl⟩) | (go_at_call 36; refine (iWordOk_any _ _).mono ?_; simp only [hq3]; rintro e w' ⟨rfl, rfl⟩))
    all_goals go_ret
    all_goals exact ⟨ret_bool (by first | (simp [opG, hq3]; done) | (simp_all [opG]; done)), by first | exact bx | exact (Below.refl _ _).alloc (Nat.le_refl _) _ | exact below_drewN ((Below.refl _ _).alloc (Nat.le_refl _) _) _⟩
  by_cases hk19 : c = 19
  · subst hk19
    obtain ⟨q3, hq3⟩ : ∃ q, inB n 0 ((E : Int) - 1) = q := ⟨_, rfl⟩
    cases q3
    all_goals go_enter Tryz.func27, Tryz.ntmps27
    all_goals go_wp2_with (first | (go_at_call 21; refine (within_any _ _ _ _).mono ?_; simp only [hq3]; rintro e w' ⟨rfl, rfl⟩) | (go_at_call 36; refine (iWordOk_any _ _).mono ?_; simp only [hq3]; rintro e w' ⟨rfl, rfl⟩))
    all_goals go_ret
    all_goals exact ⟨ret_bool (by first | (simp [opG, hq3]; done) | (simp_all [opG]; done)), by first | exact bx | exact (Below.refl _ _).alloc (Nat.le_refl _) _ | exact below_drewN ((Below.refl _ _).alloc (Nat.le_refl _) _) _⟩
  obtain ⟨q3, hq3⟩ : ∃ q, inB c 1 21 = q := ⟨_, rfl⟩
  have d1 : (c == (1 : Int)) = false := by simp; omega
  have d2 : (c == (2 : Int)) = false := by simp; omega
  have d3 : (c == (3 : Int)) = false := by simp; omega
  have d4 : (c == (4 : Int)) = false := by simp; omega
  have d5 : (c == (5 : Int)) = false := by simp; omega
  have d8 : (c == (8 : Int)) = false := by simp; omega
  have d9 : (c == (9 : Int)) = false := by simp; omega
  have d10 : (c == (10 : Int)) = false := by simp; omega
  have d11 : (c == (11 : Int)) = false := by simp; omega
  have d18 : (c == (18 : Int)) = false := by simp; omega
  have d19 : (c == (19 : Int)) = false := by simp; omega
  cases q3
  all_goals go_enter Tryz.func27, Tryz.ntmps27
  all_goals go_wp2_with (first | (go_at_call 21; refine (within_any _ _ _ _).mono ?_; simp only [hq3]; rintro e w' ⟨rfl, rfl⟩) | (go_at_call 36; refine (iWordOk_any _ _).mono ?_; simp only [hq3]; rintro e w' ⟨rfl, rfl⟩))
  all_goals go_ret
  all_goals exact ⟨ret_bool (by first | (simp [opG, hq3, hk1, hk2, hk3, hk4, hk5, hk8, hk9, hk10, hk11, hk18, hk19]; done) | (simp_all [opG]; done)), by first | exact bx | exact (Below.refl _ _).alloc (Nat.le_refl _) _ | exact below_drewN ((Below.refl _ _).alloc (Nat.le_refl _) _) _⟩
set_option maxHeartbeats 1600000 in
set_option maxRecDepth 100000 in
theorem l13Op_any {B : Nat} (v : Value) (fs : List F2) (i : Nat) (o : O3) (w : World) (hr : RdF B w v fs) (hi : i < fs.length) (ho : o3In o) (hfr : 0 ≤ fs[i].f ∧ fs[i].f ≤ 20) (hn : fs.length ≤ 60) (hm : fs[i].os.length ≤ 3000) :
    Calls Tryz.prog 35 #[v, .int .i64 i, .agg #[.int .i64 o.c, .int .i64 o.n, .int .i64 o.m]] w fun e w' => e = .returned (.bool (opOk fs i o)) ∧ Below w.heap.size w w' := by
  obtain ⟨c, n, m⟩ := o
  obtain ⟨⟨hc0, hc1⟩, ⟨hn0, hn1⟩, ⟨hm0, hm1⟩⟩ := ho
  dsimp only at hc0 hc1 hn0 hn1 hm0 hm1 ⊢
  have hgi : fs.getD i ⟨0, []⟩ = fs[i] := by rw [List.getD_eq_getElem?_getD, List.getElem?_eq_getElem hi]; rfl
  have hil : (i : Int) < (fs.length : Int) := by omega
  have HR5 := Lib.hid (fun (k : Nat) (hk : k < fs.length) => hr.at_ hk)
  obtain ⟨b, off, cap, lv, rfl, hB, hbs, hcap, q0, q1, ro⟩ := hr.at_ hi
  obtain ⟨la, lc, rfl⟩ := ro.form
  have bx : Below w.heap.size w (w.alloc (.cells #[.int .i64 c, .int .i64 n, .int .i64 m] 50)) := (Below.refl _ _).alloc (Nat.le_refl _) _
  obtain ⟨F, hF⟩ : ∃ F, fs[i].f = F := ⟨_, rfl⟩
  obtain ⟨E, hE⟩ : ∃ E, fs[i].os.length = E := ⟨_, rfl⟩
  rw [hE] at hm q1
  rw [hF] at q0 hfr
  have hop : opOk fs i ⟨c, n, m⟩ = opG (fs.length : Int) (E : Int) F (fs.getD n.toNat ⟨0, []⟩).f (i : Int) c n m := by
    unfold opOk opG
    dsimp only
    rw [hgi, hF, hE]
  rw [hop]
  obtain ⟨G, hG⟩ : ∃ G, (fs.getD n.toNat ⟨0, []⟩).f = G := ⟨_, rfl⟩
  rw [hG]
  have HG := Lib.hid hG
  have e0 : IntKind.i64.wrap ((E : Int) - 1) = (E : Int) - 1 := IntWalk.i64_in _ (by omega)
  have e1 : IntKind.i64.wrap (F - 1) = F - 1 := IntWalk.i64_in _ (by omega)
  have e2 : IntKind.i64.wrap ((fs.length : Int) - 1) = (fs.length : Int) - 1 := IntWalk.i64_in _ (by omega)
  have HW := Lib.hid (fun (a b c : Int) (W : World) => (l1In_any a b c W).mono (fun e w' h => And.intro h.1 h.2.symm))
  clear hr hgi hop hG hF hE ro
  by_cases hk1 : c = 1
  · subst hk1
    obtain ⟨q3, hq3⟩ : ∃ q, wordB n = q := ⟨_, rfl⟩
    cases q3
    all_goals go_enter Tryz.func35, Tryz.ntmps35
    all_goals go_wp2_with (first | (go_at_call 22; refine (l1In_any _ _ _ _).mono ?_; simp only [hq3]; rintro e w' ⟨rfl, rfl⟩) | (go_at_call 39; refine (sWordOk_any _ _).mono ?_; simp only [hq3]; rintro e w' ⟨rfl, rfl⟩) | (go_at_call 40; refine (l13Tag_any _ _).mono ?_; simp only [hq3]; rintro e w' ⟨rfl, rfl⟩))
    all_goals go_ret
    all_goals exact ⟨ret_bool (by first | (simp [opG, hq3]; done) | (simp_all [opG]; done)), by first | exact bx | exact (Below.refl _ _).alloc (Nat.le_refl _) _ | exact below_drewN ((Below.refl _ _).alloc (Nat.le_refl _) _) _⟩
  by_cases hk2 : c = 2
  · subst hk2
    obtain ⟨q3, hq3⟩ : ∃ q, inB n 0 2999 = q := ⟨_, rfl⟩
    cases q3
    all_goals go_enter Tryz.func35, Tryz.ntmps35
    all_goals go_wp2_with (first | (go_at_call 22; refine (l1In_any _ _ _ _).mono ?_; simp only [hq3]; rintro e w' ⟨rfl, rfl⟩) | (go_at_call 39; refine (sWordOk_any _ _).mono ?_; simp only [hq3]; rintro e w' ⟨rfl, rfl⟩) | (go_at_call 40; refine (l13Tag_any _ _).mono ?_; simp only [hq3]; rintro e w' ⟨rfl, rfl⟩))
    all_goals go_ret
    all_goals exact ⟨ret_bool (by first | (simp [opG, hq3]; done) | (simp_all [opG]; done)), by first | exact bx | exact (Below.refl _ _).alloc (Nat.le_refl _) _ | exact below_drewN ((Below.refl _ _).alloc (Nat.le_refl _) _) _⟩
  by_cases hk3 : c = 3
  · subst hk3
    obtain ⟨q3, hq3⟩ : ∃ q, inB n 0 (F - 1) = q := ⟨_, rfl⟩
    cases q3
    all_goals have HQ3 := Lib.hid (fun (W : World) => (by have := HW.out n 0 (F - 1) W; rw [hq3] at this; exact this : Calls Tryz.prog 22 #[.int .i64 n, .int .i64 0, .int .i64 (F - 1)] W _))
    all_goals go_enter Tryz.func35, Tryz.ntmps35
    all_goals go_wp2_with fail
    all_goals go_quiet ((go_at_call 22; exact Calls.quiet_of_same (HQ3.out _)))
    all_goals go_wp2
    all_goals go_ret
    all_goals exact ⟨ret_bool (by first | (simp [opG, hq3]; done) | (simp_all [opG]; done)), by first | exact bx | exact (Below.refl _ _).alloc (Nat.le_refl _) _ | exact below_drewN ((Below.refl _ _).alloc (Nat.le_refl _) _) _⟩
  by_cases hk4 : c = 4
  · subst hk4
    all_goals go_enter Tryz.func35, Tryz.ntmps35
    all_goals go_wp2_with (first | (go_at_call 22; refine (l1In_any _ _ _ _).mono ?_; simp only [Bool.true_and]; rintro e w' ⟨rfl, rfl⟩) | (go_at_call 39; refine (sWordOk_any _ _).mono ?_; simp only [Bool.true_and]; rintro e w' ⟨rfl, rfl⟩) | (go_at_call 40; refine (l13Tag_any _ _).mono ?_; simp only [Bool.true_and]; rintro e w' ⟨rfl, rfl⟩))
    all_goals go_ret
    all_goals exact ⟨ret_bool (by first | (simp [opG, Bool.true_and]; done) | (simp_all [opG]; done)), by first | exact bx | exact (Below.refl _ _).alloc (Nat.le_refl _) _ | exact below_drewN ((Below.refl _ _).alloc (Nat.le_refl _) _) _⟩
  by_cases hk5 : c = 5
  · subst hk5
    obtain ⟨q3, hq3⟩ : ∃ q, inB n 1 ((fs.length : Int) - 1) = q := ⟨_, rfl⟩
    cases q3
    · have HQ3 := Lib.hid (fun (W : World) => (by have := HW.out n 1 ((fs.length : Int) - 1) W; rw [hq3] at this; exact this : Calls Tryz.prog 22 #[.int .i64 n, .int .i64 1, .int .i64 ((fs.length : Int) - 1)] W _))
      go_enter Tryz.func35, Tryz.ntmps35
      go_wp2_with fail
      go_quiet ((go_at_call 22; exact Calls.quiet_of_same (HQ3.out _)))
      go_wp2
      all_goals go_ret
      all_goals exact ⟨ret_bool (by first | (simp [opG, hq3]; done) | (simp_all [opG]; done)), by first | exact bx | exact (Below.refl _ _).alloc (Nat.le_refl _) _ | exact below_drewN ((Below.refl _ _).alloc (Nat.le_refl _) _) _⟩
    · have hb5 := inB_true.1 hq3
      obtain ⟨kn, rfl⟩ : ∃ k : Nat, n = (k : Int) := ⟨n.toNat, by omega⟩
      have hkn : kn < fs.length := by omega
      obtain ⟨b', off', cap', lv', hs', _, _, _, c5, _, _⟩ := HR5.out kn hkn
      cases hs'
      have hgg := HG.out
      rw [Int.toNat_natCast, List.getD_eq_getElem?_getD, List.getElem?_eq_getElem hkn] at hgg
      change fs[kn].f = G at hgg
      rw [hgg] at c5
      have hkl : (kn : Int) < (fs.length : Int) := by omega
      have hk0 : (0 : Int) ≤ (kn : Int) := by omega
      clear hgg hb5
      have HQ3 := Lib.hid (fun (W : World) => (by have := HW.out (kn : Int) 1 ((fs.length : Int) - 1) W; rw [hq3] at this; exact this : Calls Tryz.prog 22 #[.int .i64 (kn : Int), .int .i64 1, .int .i64 ((fs.length : Int) - 1)] W _))
      go_enter Tryz.func35, Tryz.ntmps35
      go_wp2_with fail
      go_quiet ((go_at_call 22; exact Calls.quiet_of_same (HQ3.out _)))
      go_wp2
      all_goals go_ret
      all_goals exact ⟨ret_bool (by first | (simp [opG, hq3]; done) | (simp_all [opG]; done)), by first | exact bx | exact (Below.refl _ _).alloc (Nat.le_refl _) _ | exact below_drewN ((Below.refl _ _).alloc (Nat.le_refl _) _) _⟩
  by_cases hk8 : c = 8
  · subst hk8
    obtain ⟨q3, hq3⟩ : ∃ q, inB n 0 59 = q := ⟨_, rfl⟩
    obtain ⟨q4, hq4⟩ : ∃ q, inB m 0 20 = q := ⟨_, rfl⟩
    cases q3
    all_goals cases q4
    all_goals go_enter Tryz.func35, Tryz.ntmps35
    all_goals go_wp2_with (first | (go_at_call 22; refine (l1In_any _ _ _ _).mono ?_; simp only [hq3, hq4]; rintro e w' ⟨rfl, rfl⟩) | (go_at_call 39; refine (sWordOk_any _ _).mono ?_; simp only [hq3, hq4]; rintro e w' ⟨rfl, rfl⟩) | (go_at_call 40; refine (l13Tag_any _ _).mono ?_; simp only [hq3, hq4]; rintro e w' ⟨rfl, rfl⟩))
    all_goals go_ret
    all_goals exact ⟨ret_bool (by first | (simp [opG, hq3, hq4]; done) | (simp_all [opG]; done)), by first | exact bx | exact (Below.refl _ _).alloc (Nat.le_refl _) _ | exact below_drewN ((Below.refl _ _).alloc (Nat.le_refl _) _) _⟩
  by_cases hk9 : c = 9
  · subst hk9
    obtain ⟨q3, hq3⟩ : ∃ q, inB n 0 59 = q := ⟨_, rfl⟩
    cases q3
    all_goals go_enter Tryz.func35, Tryz.ntmps35
    all_goals go_wp2_with (first | (go_at_call 22; refine (l1In_any _ _ _ _).mono ?_; simp only [hq3]; rintro e w' ⟨rfl, rfl⟩) | (go_at_call 39; refine (sWordOk_any _ _).mono ?_; simp only [hq3]; rintro e w' ⟨rfl, rfl⟩) | (go_at_call 40; refine (l13Tag_any _ _).mono ?_; simp only [hq3]; rintro e w' ⟨rfl, rfl⟩))
    all_goals go_ret
    all_goals exact ⟨ret_bool (by first | (simp [opG, hq3]; done) | (simp_all [opG]; done)), by first | exact bx | exact (Below.refl _ _).alloc (Nat.le_refl _) _ | exact below_drewN ((Below.refl _ _).alloc (Nat.le_refl _) _) _⟩
  by_cases hk10 : c = 10
  · subst hk10
    obtain ⟨q3, hq3⟩ : ∃ q, inB n 0 59 = q := ⟨_, rfl⟩
    obtain ⟨q4, hq4⟩ : ∃ q, inB m 0 ((E : Int) - 1) = q := ⟨_, rfl⟩
    cases q3
    all_goals cases q4
    all_goals go_enter Tryz.func35, Tryz.ntmps35
    all_goals go_wp2_with (first | (go_at_call 22; refine (l1In_any _ _ _ _).mono ?_; simp only [hq3, hq4]; rintro e w' ⟨rfl, rfl⟩) | (go_at_call 39; refine (sWordOk_any _ _).mono ?_; simp only [hq3, hq4]; rintro e w' ⟨rfl, rfl⟩) | (go_at_call 40; refine (l13Tag_any _ _).mono ?_; simp only [hq3, hq4]; rintro e w' ⟨rfl, rfl⟩))
    all_goals go_ret
    all_goals exact ⟨ret_bool (by first | (simp [opG, hq3, hq4]; done) | (simp_all [opG]; done)), by first | exact bx | exact (Below.refl _ _).alloc (Nat.le_refl _) _ | exact below_drewN ((Below.refl _ _).alloc (Nat.le_refl _) _) _⟩
  by_cases hk11 : c = 11
  · subst hk11
    obtain ⟨q3, hq3⟩ : ∃ q, wordB n = q := ⟨_, rfl⟩
    obtain ⟨q4, hq4⟩ : ∃ q, inB m 0 ((E : Int) - 1) = q := ⟨_, rfl⟩
    cases q3
    all_goals cases q4
    all_goals go_enter Tryz.func35, Tryz.ntmps35
    all_goals go_wp2_with (first | (go_at_call 22; refine (l1In_any _ _ _ _).mono ?_; simp only [hq3, hq4]; rintro e w' ⟨rfl, rfl⟩) | (go_at_call 39; refine (sWordOk_any _ _).mono ?_; simp only [hq3, hq4]; rintro e w' ⟨rfl, rfl⟩) | (go_at_call 40; refine (l13Tag_any _ _).mono ?_; simp only [hq3, hq4]; rintro e w' ⟨rfl, rfl⟩))
    all_goals go_ret
    all_goals exact ⟨ret_bool (by first | (simp [opG, hq3, hq4]; done) | (simp_all [opG]; done)), by first | exact bx | exact (Below.refl _ _).alloc (Nat.le_refl _) _ | exact below_drewN ((Below.refl _ _).alloc (Nat.le_refl _) _) _⟩
  by_cases hk18 : c = 18
  · subst hk18
    obtain ⟨q3, hq3⟩ : ∃ q, inB n 0 ((E : Int) - 1) = q := ⟨_, rfl⟩
    cases q3
    all_goals go_enter Tryz.func35, Tryz.ntmps35
    all_goals go_wp2_with (first | (go_at_call 22; refine (l1In_any _ _ _ _).mono ?_; simp only [hq3]; rintro e w' ⟨rfl, rfl⟩) | (go_at_call 39; refine (sWordOk_any _ _).mono ?_; simp only [hq3]; rintro e w' ⟨rfl, rfl⟩) | (go_at_call 40; refine (l13Tag_any _ _).mono ?_; simp only [hq3]; rintro e w' ⟨rfl, rfl⟩))
    all_goals go_ret
    all_goals exact ⟨ret_bool (by first | (simp [opG, hq3]; done) | (simp_all [opG]; done)), by first | exact bx | exact (Below.refl _ _).alloc (Nat.le_refl _) _ | exact below_drewN ((Below.refl _ _).alloc (Nat.le_refl _) _) _⟩
  by_cases hk19 : c = 19
  · subst hk19
    obtain ⟨q3, hq3⟩ : ∃ q, inB n 0 ((E : Int) - 1) = q := ⟨_, rfl⟩
    cases q3
    all_goals go_enter Tryz.func35, Tryz.ntmps35
    all_goals go_wp2_with (first | (go_at_call 22; refine (l1In_any _ _ _ _).mono ?_; simp only [hq3]; rintro e w' ⟨rfl, rfl⟩) | (go_at_call 39; refine (sWordOk_any _ _).mono ?_; simp only [hq3]; rintro e w' ⟨rfl, rfl⟩) | (go_at_call 40; refine (l13Tag_any _ _).mono ?_; simp only [hq3]; rintro e w' ⟨rfl, rfl⟩))
    all_goals go_ret
    all_goals exact ⟨ret_bool (by first | (simp [opG, hq3]; done) | (simp_all [opG]; done)), by first | exact bx | exact (Below.refl _ _).alloc (Nat.le_refl _) _ | exact below_drewN ((Below.refl _ _).alloc (Nat.le_refl _) _) _⟩
  obtain ⟨q3, hq3⟩ : ∃ q, inB c 1 21 = q := ⟨_, rfl⟩
  have d1 : (c == (1 : Int)) = false := by simp; omega
  have d2 : (c == (2 : Int)) = false := by simp; omega
  have d3 : (c == (3 : Int)) = false := by simp; omega
  have d4 : (c == (4 : Int)) = false := by simp; omega
  have d5 : (c == (5 : Int)) = false := by simp; omega
  have d8 : (c == (8 : Int)) = false := by simp; omega
  have d9 : (c == (9 : Int)) = false := by simp; omega
  have d10 : (c == (10 : Int)) = false := by simp; omega
  have d11 : (c == (11 : Int)) = false := by simp; omega
  have d18 : (c == (18 : Int)) = false := by simp; omega
  have d19 : (c == (19 : Int)) = false := by simp; omega
  cases q3
  all_goals go_enter Tryz.func35, Tryz.ntmps35
  all_goals go_wp2_with (first | (go_at_call 22; refine (l1In_any _ _ _ _).mono ?_; simp only [hq3]; rintro e w' ⟨rfl, rfl⟩) | (go_at_call 39; refine (sWordOk_any _ _).mono ?_; simp only [hq3]; rintro e w' ⟨rfl, rfl⟩) | (go_at_call 40; refine (l13Tag_any _ _).mono ?_; simp only [hq3]; rintro e w' ⟨rfl, rfl⟩))
  all_goals go_ret
  all_goals exact ⟨ret_bool (by first | (simp [opG, hq3, hk1, hk2, hk3, hk4, hk5, hk8, hk9, hk10, hk11, hk18, hk19]; done) | (simp_all [opG]; done)), by first | exact bx | exact (Below.refl _ _).alloc (Nat.le_refl _) _ | exact below_drewN ((Below.refl _ _).alloc (Nat.le_refl _) _) _⟩
end Go.Proofs.YtdmkhipimcjipaaGreat
end
section
namespace Go.Proofs.YtdmkhipimcjipaaGreat
open Go.RowKit
set_option linter.unusedVariables false
set_option linter.unusedSimpArgs false
def fn0 : F2 := ⟨0, []⟩
def fnHead (x : F2) : Bool := inB x.f 0 20 && inB (x.os.length : Int) 1 3000
def lastC (x : F2) : Int := (x.os.getD (x.os.length - 1) ⟨0, 0, 0⟩).c
def fnLast (x : F2) : Bool := (lastC x == 7) || (lastC x == 19) || (lastC x == 21)
def fnOk (fs : List F2) (i : Nat) : Bool := (fs.getD i fn0).os.all (opOk fs i) && fnLast (fs.getD i fn0)
def funsOk (fs : List F2) : Bool := (inB (fs.length : Int) 1 60 && ((fs.getD 0 fn0).f == 0)) && (fs.all fnHead && (List.range fs.length).all (fnOk fs))
theorem fs_getD {fs : List F2} {i : Nat} (h : i < fs.length) : fs.getD i fn0 = fs[i] := by rw [List.getD_eq_getElem?_getD, List.getElem?_eq_getElem h]; rfl
theorem funsOk_head {fs : List F2} (h : (inB (fs.length : Int) 1 60 && ((fs.getD 0 fn0).f == 0)) = false) : funsOk fs = false := by unfold funsOk; rw [h]; rfl
theorem funsOk_bad {fs : List F2} {i : Nat} (hi : i < fs.length) (h : fnHead fs[i] = false) : funsOk fs = false := by
  have : fs.all fnHead = false := by
    rw [List.all_eq_false]
    exact ⟨_, List.getElem_mem hi, by simp [h]⟩
  unfold funsOk
  rw [this]
  simp
theorem funsOk_fn {fs : List F2} {i : Nat} (hi : i < fs.length) (h : fnOk fs i = false) : funsOk fs = false := by
  have : (List.range fs.length).all (fnOk fs) = false := by
    rw [List.all_eq_false]
    exact ⟨i, List.mem_range.2 hi, by simp [h]⟩
  unfold funsOk
  rw [this]
  simp
theorem fnOk_op {fs : List F2} {i k : Nat} (hi : i < fs.length) (hk : k < fs[i].os.length) (h : opOk fs i fs[i].os[k] = false) : fnOk fs i = false := by
  unfold fnOk
  rw [fs_getD hi]
  have : fs[i].os.all (opOk fs i) = false := by
    rw [List.all_eq_false]
    exact ⟨_, List.getElem_mem hk, by simp [h]⟩
  rw [this]
  rfl
theorem fnOk_last {fs : List F2} {i : Nat} (hi : i < fs.length) (h : fnLast fs[i] = false) : fnOk fs i = false := by
  unfold fnOk
  rw [fs_getD hi, h]
  simp
theorem funsOk_yes {fs : List F2} (h0 : (inB (fs.length : Int) 1 60 && ((fs.getD 0 fn0).f == 0)) = true) (h1 : ∀ j (h : j < fs.length), fnHead fs[j] = true) (h2 : ∀ j, j < fs.length → fnOk fs j = true) : funsOk fs = true := by
  unfold funsOk
  rw [h0, Bool.true_and, Bool.and_eq_true, List.all_eq_true, List.all_eq_true]
  refine ⟨fun x hx => ?_, fun j hj => h2 j (List.mem_range.1 hj)⟩
  obtain ⟨j, hj, rfl⟩ := List.mem_iff_getElem.1 hx
  exact h1 j hj
theorem fnOk_yes {fs : List F2} {i : Nat} (hi : i < fs.length) (h : ∀ k (hk : k < fs[i].os.length), opOk fs i fs[i].os[k] = true) (hl : fnLast fs[i] = true) : fnOk fs i = true := by
  unfold fnOk
  rw [fs_getD hi, hl, Bool.and_true, List.all_eq_true]
  intro x hx
  obtain ⟨k, hk, rfl⟩ := List.mem_iff_getElem.1 hx
  exact h k hk
theorem lastC_at {x : F2} {E : Nat} (hE : x.os.length = E) (h : 0 < E) : ∃ hk : E - 1 < x.os.length, (x.os[E - 1]).c = lastC x := by
  subst hE
  refine ⟨by omega, ?_⟩
  unfold lastC
  rw [List.getD_eq_getElem?_getD, List.getElem?_eq_getElem (by omega)]
  rfl
end Go.Proofs.YtdmkhipimcjipaaGreat
end
