import Derived.Test.YtmcoidnonmmpjaaDrawP
import Derived.Test.YtmcoidnonmmpjaaMgDraw
import Derived.Test.YtmcoidnonmmpjaaMgPutS
import Derived.Test.YtmcoidnonmmpjaaMgCollT
import Derived.Test.YtmcoidnonmmpjaaHeapNew
import Derived.Test.YtmcoidnonmmpjaaHand
import Derived.Test.YtmcoidnonmmpjaaAppR
import Derived.Deep.DeepCutAuto
/- The drawn heap: made step by step. -/
namespace Go.Proofs.Ytmcoidnonmmpjaa
open Go.RowKit
set_option linter.unusedVariables false
set_option linter.unusedSimpArgs false

set_option maxHeartbeats 800000 in
set_option maxRecDepth 100000 in
theorem l1Once_any {B g : Nat} (v : Value) (zs : List Int) (n : Int) (w : World) (hC : Cur w g v zs.length) (hr : Rd B .u8 w v zs) (hz : bytesIn zs) (hl : zs.length ≤ 4294967296) (hg : B ≤ g) (hn : i64In n) :
    Calls Try.prog 34 #[.pointer (some ⟨g, 0, none⟩), .int .i64 n] w fun e w' => (∃ b, e = .returned (.bool b)) ∧ Cur w' g v zs.length ∧ w.grownBy w' (some g) := by
  have HB := Lib.hid (l1Below_any v zs n w hC hr hz hl hg hn)
  clear hC hr
  go_enter Try.func34, Try.ntmps34
  go_wp2_with fail
  refine HB.out.mono ?_
  rintro e w1 ⟨⟨r, rfl, _, _⟩, c1, g1⟩
  have C1 := Lib.hid c1
  have G1 := Lib.hid g1
  clear c1 g1
  go_wp2
  go_ret
  exact ⟨⟨_, rfl⟩, C1.out, G1.out⟩

/-- a drawn heap and words, in one's own rows. -/
structure Drwn (w0 w : World) (v : Value) (ws : List Int) (h b n : Int) (vr : Value) (rs : List Int) : Prop where
  own : w.ownsRow w0.heap.size 3 1 v ws.length (ws.map (Value.int .i64))
  rown : w.ownsRow w0.heap.size 3 1 vr rs.length (rs.map (Value.int .i64))
  diff : Diff v vr
  hin : HeapIn ws h b n
  rin : intsOk rs
  pos : 0 < rs.length
/-- how far the drawing is. -/
structure DSt (w0 w : World) (g g2 g4 : Nat) (cv : Value) (m k : Nat) (v : Value) (ws : List Int) (h b n : Int) (vr : Value) (rs : List Int) : Prop where
  d : Drwn w0 w v ws h b n vr rs
  grow : w0.grownBy w (some g)
  cur : Cur w g cv m
  bx2 : Bx w g2 #[.slice none 0 0, .int .i64 0, .int .i64 0, .int .i64 0]
  bx4 : Bx w g4 #[v, .int .i64 h, .int .i64 b, .int .i64 n]
  far : ∀ i, v.ownBlock = some i ∨ vr.ownBlock = some i → i ≠ g2 ∧ i ≠ g4
  ge : w0.heap.size ≤ g2 ∧ w0.heap.size ≤ g4 ∧ g2 ≠ g4
  len : rs.length ≤ 100 + k
theorem Drwn.keep {w0 w w' : World} {g : Nat} {v : Value} {ws : List Int} {h b n : Int} {vr : Value} {rs : List Int} (D : Drwn w0 w v ws h b n vr rs) (hg : w.grownBy w' (some g)) (hgl : g < w0.heap.size) : Drwn w0 w' v ws h b n vr rs :=
  ⟨D.own.kept hg (own_far D.own hgl), D.rown.kept hg (own_far D.rown hgl), D.diff, D.hin, D.rin, D.pos⟩
theorem DSt.keep {w0 w w' : World} {g g2 g4 m k : Nat} {cv v : Value} {ws : List Int} {h b n : Int} {vr : Value} {rs : List Int} (D : DSt w0 w g g2 g4 cv m k v ws h b n vr rs) (hg : w.grownBy w' (some g)) (hc : Cur w' g cv m) (hgl : g < w0.heap.size) : DSt w0 w' g g2 g4 cv m k v ws h b n vr rs :=
  ⟨D.d.keep hg hgl, grow_step D.grow hg (fun i hi => .inl (Option.some.inj hi).symm), hc, D.bx2.grown hg (fun e => by have := Option.some.inj e; have := D.ge; omega), D.bx4.grown hg (fun e => by have := Option.some.inj e; have := D.ge; omega), D.far, D.ge, D.len⟩
theorem DSt.below {w0 w w' : World} {g g2 g4 m k : Nat} {cv v : Value} {ws : List Int} {h b n : Int} {vr : Value} {rs : List Int} (D : DSt w0 w g g2 g4 cv m k v ws h b n vr rs) (hb : Below w.heap.size w w') (hgl : g < w0.heap.size) : DSt w0 w' g g2 g4 cv m k v ws h b n vr rs :=
  D.keep (grow_of_below hb _) (D.cur.below hb) hgl
theorem DSt.step {w0 w w' : World} {g g2 g4 m k : Nat} {cv v : Value} {ws : List Int} {h b n : Int} {vr : Value} {rs : List Int} (D : DSt w0 w g g2 g4 cv m k v ws h b n vr rs) {r : Option Nat} (hg : w.grownBy w' r) (hgl : g < w0.heap.size)
    (hr : ∀ i, r = some i → w0.heap.size ≤ i ∧ i ≠ g2 ∧ i ≠ g4 ∧ v.ownBlock ≠ some i ∧ vr.ownBlock ≠ some i) : DSt w0 w' g g2 g4 cv m k v ws h b n vr rs := by
  have key : ∀ u : Value, (∀ i, r = some i → u.ownBlock ≠ some i) → u.ownBlock = none ∨ u.ownBlock ≠ r := by
    intro u hu
    rcases hv : u.ownBlock with _ | i
    · exact .inl rfl
    · right
      intro e
      exact hu i e.symm hv
  exact ⟨⟨D.d.own.kept hg (key v fun i hi => (hr i hi).2.2.2.1), D.d.rown.kept hg (key vr fun i hi => (hr i hi).2.2.2.2), D.d.diff, D.d.hin, D.d.rin, D.d.pos⟩, grow_step D.grow hg (fun i hi => .inr (hr i hi).1),
    D.cur.kept hg (fun e => by have := (hr g e.symm).1; omega), D.bx2.grown hg (fun e => (hr g2 e.symm).2.1 rfl), D.bx4.grown hg (fun e => (hr g4 e.symm).2.2.1 rfl), D.far, D.ge, D.len⟩
theorem DSt.heap {w0 w w' : World} {g g2 g4 m k : Nat} {cv v v' : Value} {ws ws' : List Int} {h b n h' b' n' : Int} {vr : Value} {rs : List Int} (D : DSt w0 w g g2 g4 cv m k v ws h b n vr rs) (hg : w.grownBy w' (some g4)) (hgl : g < w0.heap.size)
    (bx' : Bx w' g4 #[v', .int .i64 h', .int .i64 b', .int .i64 n']) (ov' : w.ownsRow w0.heap.size 3 1 v' ws'.length (ws'.map (Value.int .i64))) (hin' : HeapIn ws' h' b' n') (far' : ∀ i, v'.ownBlock = some i → i ≠ g2 ∧ i ≠ g4 ∧ vr.ownBlock ≠ some i) : DSt w0 w' g g2 g4 cv m k v' ws' h' b' n' vr rs := by
  have key : ∀ u : Value, (∀ i, u.ownBlock = some i → i ≠ g4) → u.ownBlock = none ∨ u.ownBlock ≠ some g4 := by
    intro u hu
    rcases hv : u.ownBlock with _ | i
    · exact .inl rfl
    · right
      intro e
      exact hu i hv (Option.some.inj e)
  have hge := D.ge
  exact ⟨⟨ov'.kept hg (key v' fun i hi => (far' i hi).2.1), D.d.rown.kept hg (key vr fun i hi => (D.far i (.inr hi)).2), fun i hi => (far' i hi).2.2, hin', D.d.rin, D.d.pos⟩, grow_step D.grow hg (fun i hi => by have := Option.some.inj hi; omega),
    D.cur.kept hg (fun e => by have := Option.some.inj e; omega), D.bx2.grown hg (fun e => by have := Option.some.inj e; omega), bx', fun i hi => by
      rcases hi with hi | hi
      · exact ⟨(far' i hi).1, (far' i hi).2.1⟩
      · exact D.far i (.inr hi), D.ge, D.len⟩
theorem DSt.roots {w0 w w' : World} {g g2 g4 m k : Nat} {cv v : Value} {ws : List Int} {h b n y : Int} {vr vr' : Value} {rs : List Int} (D : DSt w0 w g g2 g4 cv m k v ws h b n vr rs) (hg : w.grownBy w' vr.ownBlock) (hgl : g < w0.heap.size)
    (ro : w'.ownsRow w0.heap.size 3 1 vr' (rs ++ [y]).length ((rs ++ [y]).map (Value.int .i64))) (hat : vr'.ownBlock = vr.ownBlock ∨ vr'.ownBlock = some (w.heap.size + 1)) (hy : i64In y) : DSt w0 w' g g2 g4 cv m (k + 1) v ws h b n vr' (rs ++ [y]) := by
  have hge := D.ge
  have l2 := D.bx2.1
  have l4 := D.bx4.1
  refine ⟨⟨D.d.own.kept hg (own_diff fun i hi hi' => D.d.diff i hi' hi), ro, fun i hi hi' => ?_, D.d.hin, intsOk_append D.d.rin (intsOk_cons hy intsOk_nil), by simp⟩, grow_step D.grow hg (fun i hi => .inr (D.d.rown.lt i hi).1),
    D.cur.kept hg (fun e => by have := (D.d.rown.lt g e.symm).1; omega), D.bx2.grown hg (fun e => (D.far g2 (.inr e.symm)).1 rfl), D.bx4.grown hg (fun e => (D.far g4 (.inr e.symm)).2 rfl), fun i hi => ?_, D.ge, by have := D.len; simp; omega⟩
  · rcases hat with e | e
    · exact D.d.diff i hi (e ▸ hi')
    · have := (D.d.own.lt i hi).2
      rw [e] at hi'
      have := Option.some.inj hi'
      omega
  · rcases hi with hi | hi
    · exact D.far i (.inl hi)
    · rcases hat with e | e
      · exact D.far i (.inr (e ▸ hi))
      · rw [e] at hi
        have := Option.some.inj hi
        omega
theorem DSt.coll {w0 w w' : World} {g g2 g4 m k : Nat} {cv v v' : Value} {ws ws' : List Int} {h b n h' b' n' : Int} {vr vr' : Value} {rs rs' : List Int} (D : DSt w0 w g g2 g4 cv m k v ws h b n vr rs) (hg : w.grownBy w' (some g4)) (hgl : g < w0.heap.size)
    (bx' : Bx w' g4 #[v', .int .i64 h', .int .i64 b', .int .i64 n']) (ov' : w.ownsRow w0.heap.size 3 1 v' ws'.length (ws'.map (Value.int .i64))) (hin' : HeapIn ws' h' b' n')
    (or' : w.ownsRow w0.heap.size 3 1 vr' rs'.length (rs'.map (Value.int .i64))) (hr' : intsOk rs') (hl' : rs'.length = rs.length) (hd : Diff v' vr') (far' : ∀ i, v'.ownBlock = some i ∨ vr'.ownBlock = some i → i ≠ g2 ∧ i ≠ g4) : DSt w0 w' g g2 g4 cv m k v' ws' h' b' n' vr' rs' := by
  have key : ∀ u : Value, (∀ i, u.ownBlock = some i → i ≠ g4) → u.ownBlock = none ∨ u.ownBlock ≠ some g4 := by
    intro u hu
    rcases hv : u.ownBlock with _ | i
    · exact .inl rfl
    · right
      intro e
      exact hu i hv (Option.some.inj e)
  have hge := D.ge
  have hpos := D.d.pos
  have hlen := D.len
  exact ⟨⟨ov'.kept hg (key v' fun i hi => (far' i (.inl hi)).2), or'.kept hg (key vr' fun i hi => (far' i (.inr hi)).2), hd, hin', hr', by omega⟩, grow_step D.grow hg (fun i hi => by have := Option.some.inj hi; omega),
    D.cur.kept hg (fun e => by have := Option.some.inj e; omega), D.bx2.grown hg (fun e => by have := Option.some.inj e; omega), bx', far', D.ge, by omega⟩
theorem DSt.more {w0 w : World} {g g2 g4 m k : Nat} {cv v : Value} {ws : List Int} {h b n : Int} {vr : Value} {rs : List Int} (D : DSt w0 w g g2 g4 cv m k v ws h b n vr rs) : DSt w0 w g g2 g4 cv m (k + 1) v ws h b n vr rs :=
  ⟨D.d, D.grow, D.cur, D.bx2, D.bx4, D.far, D.ge, by have := D.len; omega⟩

theorem DSt.fin {w0 w w' : World} {g g2 g4 m k : Nat} {cv v : Value} {ws : List Int} {h b n : Int} {vr : Value} {rs : List Int} (D : DSt w0 w g g2 g4 cv m k v ws h b n vr rs) (hg : w.grownBy w' (some g2)) (hgl : g < w0.heap.size) : Drwn w0 w' v ws h b n vr rs ∧ w0.grownBy w' (some g) ∧ Cur w' g cv m := by
  have key : ∀ u : Value, (∀ i, u.ownBlock = some i → i ≠ g2) → u.ownBlock = none ∨ u.ownBlock ≠ some g2 := by
    intro u hu
    rcases hv : u.ownBlock with _ | i
    · exact .inl rfl
    · right
      intro e
      exact hu i hv (Option.some.inj e)
  have hge := D.ge
  exact ⟨⟨D.d.own.kept hg (key v fun i hi => (D.far i (.inl hi)).1), D.d.rown.kept hg (key vr fun i hi => (D.far i (.inr hi)).1), D.d.diff, D.d.hin, D.d.rin, D.d.pos⟩, grow_step D.grow hg (fun i hi => by have := Option.some.inj hi; omega),
    D.cur.kept hg (fun e => by have := Option.some.inj e; omega)⟩

/-- the same, with a row of kids. -/
structure KSt (w0 w1 w : World) (g g2 g4 : Nat) (cv : Value) (m k : Nat) (v : Value) (ws : List Int) (h b n : Int) (vr : Value) (rs : List Int) (vk : Value) (ks : List Int) : Prop where
  D : DSt w0 w g g2 g4 cv m k v ws h b n vr rs
  K : w.ownsRow w1.heap.size 3 1 vk ks.length (ks.map (Value.int .i64))
  z : w1.heap.size ≤ w.heap.size
theorem KSt.keep {w0 w1 w w' : World} {g g2 g4 m k : Nat} {cv v : Value} {ws : List Int} {h b n : Int} {vr : Value} {rs : List Int} {vk : Value} {ks : List Int} (S : KSt w0 w1 w g g2 g4 cv m k v ws h b n vr rs vk ks) (hg : w.grownBy w' (some g)) (hc : Cur w' g cv m) (hgl : g < w0.heap.size) (h1 : g < w1.heap.size) : KSt w0 w1 w' g g2 g4 cv m k v ws h b n vr rs vk ks :=
  ⟨S.D.keep hg hc hgl, S.K.kept hg (own_far S.K h1), Nat.le_trans S.z hg.size⟩
theorem KSt.below {w0 w1 w w' : World} {g g2 g4 m k : Nat} {cv v : Value} {ws : List Int} {h b n : Int} {vr : Value} {rs : List Int} {vk : Value} {ks : List Int} (S : KSt w0 w1 w g g2 g4 cv m k v ws h b n vr rs vk ks) (hb : Below w.heap.size w w') (hgl : g < w0.heap.size) : KSt w0 w1 w' g g2 g4 cv m k v ws h b n vr rs vk ks :=
  ⟨S.D.below hb hgl, own_below S.K hb (own_lt S.K), Nat.le_trans S.z hb.size⟩
theorem Bx.four {w : World} {g : Nat} {x0 x1 x2 x3 : Value} (h : Bx w g #[x0, x1, x2, x3]) : w.cell? ⟨g, 0, none⟩ = some x0 ∧ w.cell? ⟨g, 1, none⟩ = some x1 ∧ w.cell? ⟨g, 2, none⟩ = some x2 ∧ w.cell? ⟨g, 3, none⟩ = some x3 :=
  ⟨by simpa using h.2.1 0, by simpa using h.2.1 1, by simpa using h.2.1 2, by simpa using h.2.1 3⟩

set_option maxHeartbeats 3200000 in
set_option maxRecDepth 100000 in
theorem l17DrawRight_any {B g : Nat} (cv : Value) (zs : List Int) (w : World) (hC : Cur w g cv zs.length) (hr : Rd B .u8 w cv zs) (hz : bytesIn zs) (hl : zs.length ≤ 4294967296) (hg : B ≤ g) :
    Calls Try.prog 71 #[.pointer (some ⟨g, 0, none⟩)] w fun e w' => ∃ v ws h b n vr rs, e = .returned (.tuple #[.agg #[v, .int .i64 h, .int .i64 b, .int .i64 n], vr]) ∧ Drwn w w' v ws h b n vr rs ∧ rs.length ≤ 200 ∧ w.grownBy w' (some g) ∧ Cur w' g cv zs.length := by
  obtain ⟨i0, hi, hz0, hz1, hz2⟩ := info_parts Try.infoI2
  have hgl := hC.lt
  have HB := Lib.hid (fun (W : World) (hC : Cur W g cv zs.length) (hw : w.grownBy W (some g)) (n : Int) (hn : i64In n) => l1Below_any cv zs n W hC (hr.grown_row hw hg) hz hl hg hn)
  have HO := Lib.hid (fun (W : World) (hC : Cur W g cv zs.length) (hw : w.grownBy W (some g)) (n : Int) (hn : i64In n) => l1Once_any cv zs n W hC (hr.grown_row hw hg) hz hl hg hn)
  have HP := Lib.hid (fun (W : World) (hC : Cur W g cv zs.length) (hw : w.grownBy W (some g)) (B2 : Nat) (u : Value) (ys : List Int) (hy : Rd B2 .i64 W u ys) (h0 : 0 < ys.length) (h1 : ys.length ≤ 4294967296) (hne : ∀ a n c, u = .slice (some a) n c → a.block ≠ g) => l1PickInt_any cv u zs ys W hC (hr.grown_row hw hg) hz hl hg hy h0 h1 hne)
  have HC := Lib.hid hC
  clear hC hr hz
  go_enter Try.func71, Try.ntmps71
  go_wp2_with fail
  generalize hx : w.alloc _ = x
  obtain ⟨b0, k2⟩ := Bx.alloc hx
  have hxs : x.heap.size = w.heap.size + 1 := by rw [← hx]; simp
  clear hx
  generalize hx : x.alloc _ = x1
  have ry := Rd.made hx [1, 6, 20, 60] rfl (by decide)
  rw [hxs] at ry
  obtain ⟨b1, _⟩ := Bx.alloc hx
  clear hx
  have zx := b0.size
  have zx1 := b1.size
  have l2 := k2.1
  replace k2 := k2.below b1 k2.1
  have bb := b0.trans (b1.mono b0.size)
  have g1 := grow_of_below bb (some g)
  have c1 : Cur x1 g cv zs.length := HC.out.below bb
  have HC1 := Lib.hid (HP.out x1 c1 g1 _ _ _ ry (by decide) (by decide) (fun a n c h => by cases h; dsimp only; omega))
  refine HC1.out.mono ?_
  rintro e w2 ⟨⟨hf, rfl, hfm⟩, c2, g2⟩
  replace k2 := k2.grown g2 (fun e => by have := Option.some.inj e; omega)
  have g3 := grow_step g1 g2 (fun i hi => .inl (Option.some.inj hi).symm)
  have hz2' := g2.size
  clear ry b0 b1 bb c1 g1 g2
  go_wp2_with fail
  refine (sHeapNew_any hf w2).mono ?_
  rintro e w3 ⟨v, rfl, ov, b3⟩
  have hfi : inB hf 1 3000 = true := inB_true.2 (by
    rcases List.mem_cons.1 hfm with rfl | hfm
    · omega
    rcases List.mem_cons.1 hfm with rfl | hfm
    · omega
    rcases List.mem_cons.1 hfm with rfl | hfm
    · omega
    rcases List.mem_cons.1 hfm with rfl | hfm
    · omega
    cases hfm)
  have HH : HeapIn (newWords hf) hf 0 0 := by
    obtain ⟨h0, h1⟩ := inB_true.1 hfi
    refine ⟨?_, ?_, newWords_len hf, by unfold i64In; omega, by unfold i64In; omega, by unfold i64In; omega⟩
    · refine intsOk_of fun y hy => ?_
      unfold newWords at hy
      rw [if_pos hfi] at hy
      rw [List.eq_of_mem_replicate hy]
      omega
    · unfold newWords
      rw [if_pos hfi, List.length_replicate]
      omega
  obtain ⟨ws, hws⟩ : ∃ ws, newWords hf = ws := ⟨_, rfl⟩
  rw [hws] at ov HH
  rw [hfi, if_pos rfl]
  clear hws hfi hfm
  have z3 := b3.size
  have c3 := c2.below b3
  have g4 := grow_step g3 (grow_of_below b3 (some g)) (fun i hi => .inl (Option.some.inj hi).symm)
  replace k2 := k2.below b3 k2.1
  obtain ⟨va, vc, rfl⟩ := own_form ov
  go_wp2_with fail
  generalize hx : w3.alloc _ = x4
  have hx4 : x4.heap.size = w3.heap.size + 1 := by rw [← hx]; simp
  obtain ⟨b4, k4⟩ := Bx.alloc hx
  clear hx
  replace k2 := k2.below b4 k2.1
  have c4 := c3.below b4
  have g5 := grow_step g4 (grow_of_below b4 (some g)) (fun i hi => .inl (Option.some.inj hi).symm)
  have of4 : ∀ i, Value.ownBlock (.slice va ws.length vc) = some i → w2.heap.size ≤ i ∧ i < w3.heap.size := fun i hi => ov.lt i hi
  have o4 := own_below ov b4 (own_lt ov)
  clear c3 g4 ov b3 b4 HC1
  refine (sIntWord_any 5 x4).mono ?_
  rintro e w' ⟨rfl, rfl⟩
  go_wp2_with fail
  generalize hx : x4.alloc _ = x5
  have or5 := own_made hx (base := w.heap.size) (by omega) 2 rfl (by decide)
  rw [hx4] at or5
  obtain ⟨b5, _⟩ := Bx.alloc hx
  clear hx
  have D : DSt w x5 g w.heap.size w3.heap.size cv zs.length 0 (.slice va ws.length vc) ws hf 0 0 (.slice (some ⟨w3.heap.size + 1, 0, none⟩) 2 2) [1, intW 5] :=
    ⟨⟨own_base (own_below o4 b5 (own_lt o4)) (by omega), or5, fun i hi hi' => by have := of4 i hi; have e : w3.heap.size + 1 = i := Option.some.inj hi'; omega, HH, intsOk_cons (by unfold i64In; omega) (intsOk_cons (by unfold i64In intW; split <;> omega) intsOk_nil), by simp⟩,
      grow_step g5 (grow_of_below b5 (some g)) (fun i hi => .inl (Option.some.inj hi).symm), c4.below b5, k2.below b5 k2.1, k4.below b5 k4.1,
      fun i hi => by
        rcases hi with hi | hi
        · have := of4 i hi; omega
        · have e : w3.heap.size + 1 = i := Option.some.inj hi; omega,
      ⟨Nat.le_refl _, by omega, by omega⟩, by simp⟩
  obtain ⟨g2, hg2⟩ : ∃ g2, w.heap.size = g2 := ⟨_, rfl⟩
  obtain ⟨g4, hg4⟩ : ∃ g4, w3.heap.size = g4 := ⟨_, rfl⟩
  obtain ⟨s6, hs6⟩ : ∃ s6, Value.slice (some ⟨w3.heap.size + 1, 0, none⟩) 2 2 = s6 := ⟨_, rfl⟩
  rw [hs6] at D ⊢
  rw [hg4] at D ⊢
  have D' : DSt w x5 g g2 g4 cv zs.length 0 (.slice va ws.length vc) ws hf 0 0 s6 [1, intW 5] := by rw [← hg2]; exact D
  have HGG := Lib.hid hg2.symm
  rw [hg2]
  clear D hs6 hg4 hg2 hxs hx4 zx zx1 l2 hz2' z3 c4 k2 k4 g5 o4 or5 b5 of4 HH c2 g3 HC
  go_loopw [6, 7] (fun s6 s7 wr => ∃ (k : Nat) (v : Value) (ws : List Int) (h b n : Int) (rs : List Int), s7 = .int .i64 k ∧ k ≤ 14 ∧ DSt w wr g g2 g4 cv zs.length k v ws h b n s6 rs) (fun _ i _ => 15 - (intOf i).toNat)
  case atStart => exact ⟨0, _, _, _, _, _, _, rfl, by omega, D'⟩
  case round =>
    clear D'
    obtain ⟨k, v, ws, h, b, n, rs, rfl, hk, D⟩ := hrel
    rcases D.d.rown.2 with ⟨_, hv0⟩ | ⟨gr, rcap, rcur, rfl, _⟩
    · exact absurd hv0 (by have := D.d.pos; omega)
    obtain ⟨va, vc, rfl⟩ := own_form D.d.own
    have hpos := D.d.pos
    have hrl := D.len
    have HD := Lib.hid D
    go_wp2_with fail
    refine (HB.out wr D.cur D.grow 14 (by unfold i64In; omega)).mono ?_
    rintro e w1 ⟨⟨r, rfl, _, hr2⟩, c1, g1⟩
    obtain ⟨r0, r1⟩ := hr2 (by omega)
    have D1 := D.keep g1 c1 hgl
    clear D HD c1 g1 hr2
    by_cases hlt : (k : Int) < r
    · have HD := Lib.hid D1
      clear D1
      go_wp2_with fail
      generalize hx : w1.alloc _ = x
      have ok0 := own_empty (w := w1) (base := w1.heap.size) (e := 3) (size := 1) rfl (Nat.le_refl _)
      rw [hx] at ok0
      obtain ⟨bx, _⟩ := Bx.alloc hx
      have hxz : x.heap.size = w1.heap.size + 1 := by rw [← hx]; simp
      clear hx
      have Z1 := Nat.lt_of_lt_of_le hgl HD.out.grow.size
      have gx := grow_of_below bx (some g)
      have cx := HD.out.cur.below bx
      clear bx
      go_loopw [8, 9] (fun s8 s9 wr => ∃ (j : Nat) (ks : List Int), s9 = .int .i64 j ∧ j ≤ 4 ∧ w1.grownBy wr (some g) ∧ Cur wr g cv zs.length ∧ wr.ownsRow w1.heap.size 3 1 s8 ks.length (ks.map (Value.int .i64)) ∧ intsOk ks ∧ ks.length ≤ j) (fun _ i _ => 5 - (intOf i).toNat)
      case atStart => exact ⟨0, [], rfl, by omega, gx, cx, ok0, intsOk_nil, by simp⟩
      case round =>
        clear ok0 gx cx hxz
        obtain ⟨j, ks, rfl, hj, gy, cy, oy, iy, ly⟩ := hrel
        obtain ⟨ka, kc, rfl⟩ := own_form oy
        have GY := Lib.hid gy
        have CY := Lib.hid cy
        have OY := Lib.hid oy
        have IY := Lib.hid iy
        clear gy cy oy iy
        go_wp2_with fail
        refine (HB.out wr CY.out (HD.out.keep GY.out CY.out hgl).grow 4 (by unfold i64In; omega)).mono ?_
        rintro e w2 ⟨⟨q, rfl, _, hq2⟩, c2, g2'⟩
        obtain ⟨q0, q1⟩ := hq2 (by omega)
        have gg := grow_step GY.out g2' (fun i hi => .inl (Option.some.inj hi).symm)
        have oy2 := OY.out.kept g2' (own_far OY.out Z1)
        have D3 := Lib.hid (HD.out.keep gg c2 hgl)
        have C2 := Lib.hid c2
        have GG := Lib.hid gg
        have O2 := Lib.hid oy2
        clear c2 g2' gg oy2 hq2 CY GY OY
        by_cases hjl : (j : Int) < q
        · go_wp2_with fail
          refine (HB.out w2 C2.out D3.out.grow rs.length (by unfold i64In; omega)).mono ?_
          rintro e w3 ⟨⟨t, rfl, _, ht2⟩, c3, g3⟩
          obtain ⟨t0, t1⟩ := ht2 (by omega)
          obtain ⟨t, rfl⟩ := Int.eq_ofNat_of_zero_le t0
          have gg3 := grow_step GG.out g3 (fun i hi => .inl (Option.some.inj hi).symm)
          have O3 := Lib.hid (O2.out.kept g3 (own_far O2.out Z1))
          have D4 := HD.out.keep gg3 c3 hgl
          have htn : t < rs.length := by omega
          have ce := own_cell D4.d.rown t htn
          rw [List.getElem?_map, List.getElem?_eq_getElem htn, Option.map_some] at ce
          have hy : i64In rs[t] := intsOk_mem D4.d.rin _ (List.getElem_mem htn)
          obtain ⟨y, hye⟩ : ∃ y, rs[t] = y := ⟨_, rfl⟩
          rw [hye] at ce hy
          have HY := Lib.hid hy
          have GG3 := Lib.hid gg3
          have C3 := Lib.hid c3
          have zw3 := gg3.size
          clear hye hy D4 gg3 c3 g3 ht2 D3 C2 GG O2
          go_wp2_with (at_builtin; refine wpList_app1_at rfl _ _ 24 rfl w1.heap.size 3 i0 (.int .i64 0) 1 8 Try.underlying24 hi hz0 hz1 hz2 rfl (by decide) _ _ _ rfl O3.out #[_] rfl ?_ w3.heap.size rfl rfl ?_ ?_ ?_ ?_)
          · rfl
          · unfold maxLen; omega
          · omega
          · omega
          · intro v' w4 ho hg4 hat
            have gg4 := Lib.hid (grow_step GG3.out hg4 (fun i hi => .inr (O3.out.lt i hi).1))
            have C4 := Lib.hid (C3.out.kept hg4 (fun he => by have := (O3.out.lt g he.symm).1; omega))
            have O4 : Hid (w4.ownsRow w1.heap.size 3 1 v' (ks ++ [y]).length ((ks ++ [y]).map (Value.int .i64))) := Lib.hid (by simpa using ho)
            have I4 := Lib.hid (intsOk_append IY.out (intsOk_cons HY.out intsOk_nil))
            clear ho hg4 hat GG3 C3 O3 IY HY
            go_wp2
            go_roundw
            case rel => exact ⟨j + 1, ks ++ [y], by go_num, by omega, gg4.out, C4.out, O4.out, I4.out, by simp; omega⟩
            case measure => simp [intOf]; omega
        · have HOLD := Lib.hid (show g2 < w1.heap.size ∧ g4 < w1.heap.size ∧ ∀ i, (Value.slice va ws.length vc).ownBlock = some i ∨ (Value.slice (some ⟨gr, 0, none⟩) rs.length rcap).ownBlock = some i → i < w1.heap.size from ⟨HD.out.bx2.1, HD.out.bx4.1, fun i hi => by
            rcases hi with hi | hi
            · exact own_lt HD.out.d.own i hi
            · exact own_lt HD.out.d.rown i hi⟩)
          have HW1 := Lib.hid HD.out.grow.size
          clear HD
          have SK : KSt w w1 w2 g g2 g4 cv zs.length k (.slice va ws.length vc) ws h b n (.slice (some ⟨gr, 0, none⟩) rs.length rcap) rs (.slice ka ks.length kc) ks := ⟨D3.out, O2.out, GG.out.size⟩
          have q0 := SK.D.bx4.four
          have HSK := Lib.hid SK
          clear D3 O2 GG C2 SK
          go_wp2_with fail
          go_cut [10, 11, 12] from 45 to 55 (fun p10 p11 p12 W => ∃ (gx : Nat) (va' : Option Addr) (vc' : Nat) (P : Put), p10 = .pointer (some ⟨gx, 0, none⟩) ∧ p11 = .int .i64 P.at_ ∧ p12 = .bool P.ok ∧
            DSt w W g g2 g4 cv zs.length k (.slice va ws.length vc) ws h b n (.slice (some ⟨gr, 0, none⟩) rs.length rcap) rs ∧ Bx W gx #[.slice va' P.ws.length vc', .int .i64 h, .int .i64 b, .int .i64 P.next] ∧
            W.ownsRow w.heap.size 3 1 (.slice va' P.ws.length vc') P.ws.length (P.ws.map (Value.int .i64)) ∧ (HeapIn P.ws h b P.next ∧ i64In P.at_) ∧ w1.heap.size ≤ gx ∧ ∀ i, Value.ownBlock (.slice va' P.ws.length vc') = some i → w1.heap.size ≤ i)
          case first =>
            refine wp_region_held_drew (S := (fun w' => w'.cell? ⟨g4, 0, none⟩ = some (.slice va ws.length vc) ∧ w'.cell? ⟨g4, 1, none⟩ = some (.int .i64 h) ∧ w'.cell? ⟨g4, 2, none⟩ = some (.int .i64 b) ∧ w'.cell? ⟨g4, 3, none⟩ = some (.int .i64 n))) (by kernel_rfl) (by first | (dsimp only; exact q0) | (exact q0)) (fun hHeld => ?_)
            refine' wpAnyH_take (i := 0) (oi := _) (v := _) ?hi0n351 (by kernel_rfl) (by kernel_rfl) (by kernel_rfl) ?hQ0n351 ?hy0n351 (by assumption) ?rest0n351
            case hi0n351 => (simp only [List.getElem?_toArray, List.getElem?_cons_zero]; rfl)
            case hQ0n351 => exact fun _ _ _ h => h
            case hy0n351 => exact Or.inl ⟨by rfl, by (intro w hSw; (try dsimp only at hSw); go_simp; (try with_reducible rfl))⟩
            try simp only [Act.put, List.setIfInBounds_toArray, List.set_cons_zero, List.set_cons_succ]
            refine' wpAnyH_take (i := 1) (oi := _) (v := _) ?hi1n351 (by kernel_rfl) (by kernel_rfl) (by kernel_rfl) ?hQ1n351 ?hy1n351 (by assumption) ?rest1n351
            case hi1n351 => (simp only [List.getElem?_toArray, List.getElem?_cons_succ, List.getElem?_cons_zero]; rfl)
            case hQ1n351 => exact fun _ _ _ h => h
            case hy1n351 => exact Or.inl ⟨by rfl, by (intro w hSw; (try dsimp only at hSw); go_simp; (try with_reducible rfl))⟩
            try simp only [Act.put, List.setIfInBounds_toArray, List.set_cons_zero, List.set_cons_succ]
            refine' wpAnyH_take (i := 3) (oi := _) (v := _) ?hi3n351 (by kernel_rfl) (by kernel_rfl) (by kernel_rfl) ?hQ3n351 ?hy3n351 (by assumption) ?rest3n351
            case hi3n351 => (simp only [List.getElem?_toArray, List.getElem?_cons_succ, List.getElem?_cons_zero]; rfl)
            case hQ3n351 => exact fun _ _ _ h => h
            case hy3n351 => exact Or.inl ⟨by rfl, by (intro w hSw; (try dsimp only at hSw); go_simp; (try with_reducible rfl))⟩
            try simp only [Act.put, List.setIfInBounds_toArray, List.set_cons_zero, List.set_cons_succ]
            refine' wpAnyH_take (i := 5) (oi := _) (v := _) ?hi5n351 (by kernel_rfl) (by kernel_rfl) (by kernel_rfl) ?hQ5n351 ?hy5n351 (by assumption) ?rest5n351
            case hi5n351 => (simp only [List.getElem?_toArray, List.getElem?_cons_succ, List.getElem?_cons_zero]; rfl)
            case hQ5n351 => exact fun _ _ _ h => h
            case hy5n351 => exact Or.inl ⟨by rfl, by (intro w hSw; (try dsimp only at hSw); go_simp; (try with_reducible rfl))⟩
            try simp only [Act.put, List.setIfInBounds_toArray, List.set_cons_zero, List.set_cons_succ]
            have bxd : Below w2.heap.size w2 w2.drew := (Below.refl _ _).drew
            have SS := Lib.hid (HSK.out.below bxd hgl)
            generalize hxw : w2.drew = xd at hHeld SS ⊢
            clear hxw bxd HSK q0
-- ORDERS BEGIN
            refine wpAnyH_ready (rs := [2, 11]) (by kernel_rfl) (by simp) ?_
            refine AllReadyH.cons (by (simp only [List.getElem?_toArray, List.getElem?_cons_succ, List.getElem?_cons_zero]; rfl)) (fun K hK => ?_) (AllReadyH.cons (by (simp only [List.getElem?_toArray, List.getElem?_cons_succ, List.getElem?_cons_zero]; rfl)) (fun K hK => ?_) AllReadyH.nil)
            · --
              go_simp
              refine (HO.out xd SS.out.D.cur SS.out.D.grow 4 (by unfold i64In; omega)).mono ?_
              rintro e y1 ⟨⟨bf, rfl⟩, c1, g1⟩
              replace SS := Lib.hid (SS.out.keep g1 c1 hgl Z1)
              clear c1 g1
              have q0 := SS.out.D.bx4.four
              dsimp only
              refine hK.out _ _ (by first | (dsimp only; exact q0) | exact q0) (fun hHeld => ?_)
              clear q0
              clear hK K
              try simp only [Act.put, List.setIfInBounds_toArray, List.set_cons_zero, List.set_cons_succ]
              refine wpAnyH_ready (rs := [4, 11]) (by kernel_rfl) (by simp) ?_
              refine AllReadyH.cons (by (simp only [List.getElem?_toArray, List.getElem?_cons_succ, List.getElem?_cons_zero]; rfl)) (fun K hK => ?_) (AllReadyH.cons (by (simp only [List.getElem?_toArray, List.getElem?_cons_succ, List.getElem?_cons_zero]; rfl)) (fun K hK => ?_) AllReadyH.nil)
              · --
                go_simp
                refine (HB.out y1 SS.out.D.cur SS.out.D.grow 5 (by unfold i64In; omega)).mono ?_
                rintro e y2 ⟨⟨tg, rfl, _, htg⟩, c1, g1⟩
                clear htg
                replace SS := Lib.hid (SS.out.keep g1 c1 hgl Z1)
                clear c1 g1
                have q0 := SS.out.D.bx4.four
                dsimp only
                refine hK.out _ _ (by first | (dsimp only; exact q0) | exact q0) (fun hHeld => ?_)
                clear q0
                clear hK K
                try simp only [Act.put, List.setIfInBounds_toArray, List.set_cons_zero, List.set_cons_succ]
                refine wpAnyH_ready (rs := [6, 11]) (by kernel_rfl) (by simp) ?_
                refine AllReadyH.cons (by (simp only [List.getElem?_toArray, List.getElem?_cons_succ, List.getElem?_cons_zero]; rfl)) (fun K hK => ?_) (AllReadyH.cons (by (simp only [List.getElem?_toArray, List.getElem?_cons_succ, List.getElem?_cons_zero]; rfl)) (fun K hK => ?_) AllReadyH.nil)
                · --
                  go_simp
                  have HAl := sAlloc_any _ _ ws ks h b n bf tg y2 (Rd.of_own SS.out.D.d.own) SS.out.D.d.hin.ok (by have := SS.out.D.d.hin.le; omega) (Rd.of_own SS.out.K) IY.out (by omega) SS.out.D.d.hin.h SS.out.D.d.hin.b SS.out.D.d.hin.n
                  have HPF := SS.out.D.d.hin.alloc (f := bf) (tag := tg) IY.out
                  obtain ⟨P, hP⟩ : ∃ P, allocOf ws h b n bf tg ks = P := ⟨_, rfl⟩
                  rw [hP] at HAl HPF
                  clear hP
                  replace HPF := Lib.hid (And.intro HPF.1 HPF.2.2.1)
                  replace HAl := Lib.hid HAl
                  refine HAl.out.mono ?_
                  rintro e y3 ⟨⟨v', rfl, o'⟩, b'⟩
                  obtain ⟨va', vc', rfl⟩ := own_form o'
                  have GV := Lib.hid (fun i hi => Nat.le_trans SS.out.z (o'.lt i hi).1)
                  have OV := Lib.hid (own_base o' (base' := w.heap.size) SS.out.D.grow.size)
                  replace SS := Lib.hid (SS.out.below b' hgl)
                  clear HAl o' b'
                  have q0 := SS.out.D.bx4.four
                  dsimp only
                  refine hK.out _ _ (by first | (dsimp only; exact q0) | exact q0) (fun hHeld => ?_)
                  clear q0
                  clear hK K
                  try simp only [Act.put, List.setIfInBounds_toArray, List.set_cons_zero, List.set_cons_succ]
                  refine' wpAnyH_take (i := 7) (oi := _) (v := _) ?hi7n410 (by kernel_rfl) (by kernel_rfl) (by kernel_rfl) ?hQ7n410 ?hy7n410 (by assumption) ?rest7n410
                  case hi7n410 => (simp only [List.getElem?_toArray, List.getElem?_cons_succ, List.getElem?_cons_zero]; rfl)
                  case hQ7n410 => exact fun _ _ _ h => h
                  case hy7n410 => exact Or.inl ⟨by rfl, by (intro w hSw; (try dsimp only at hSw); go_simp; (try with_reducible rfl))⟩
                  try simp only [Act.put, List.setIfInBounds_toArray, List.set_cons_zero, List.set_cons_succ]
                  refine' wpAnyH_take (i := 8) (oi := _) (v := _) ?hi8n410 (by kernel_rfl) (by kernel_rfl) (by kernel_rfl) ?hQ8n410 ?hy8n410 (by assumption) ?rest8n410
                  case hi8n410 => (simp only [List.getElem?_toArray, List.getElem?_cons_succ, List.getElem?_cons_zero]; rfl)
                  case hQ8n410 => exact fun _ _ _ h => h
                  case hy8n410 => exact Or.inl ⟨by rfl, by (intro w hSw; (try dsimp only at hSw); go_simp; (try with_reducible rfl))⟩
                  try simp only [Act.put, List.setIfInBounds_toArray, List.set_cons_zero, List.set_cons_succ]
                  refine' wpAnyH_take (i := 9) (oi := _) (v := _) ?hi9n410 (by kernel_rfl) (by kernel_rfl) (by kernel_rfl) ?hQ9n410 ?hy9n410 (by assumption) ?rest9n410
                  case hi9n410 => (simp only [List.getElem?_toArray, List.getElem?_cons_succ, List.getElem?_cons_zero]; rfl)
                  case hQ9n410 => exact fun _ _ _ h => h
                  case hy9n410 => exact Or.inl ⟨by rfl, by (intro w hSw; (try dsimp only at hSw); go_simp; (try with_reducible rfl))⟩
                  try simp only [Act.put, List.setIfInBounds_toArray, List.set_cons_zero, List.set_cons_succ]
                  refine' wpAnyH_take (i := 10) (oi := _) (v := _) ?hi10n410 (by kernel_rfl) (by kernel_rfl) (by kernel_rfl) ?hQ10n410 ?hy10n410 (by assumption) ?rest10n410
                  case hi10n410 => (simp only [List.getElem?_toArray, List.getElem?_cons_succ, List.getElem?_cons_zero]; rfl)
                  case hQ10n410 => exact fun _ _ _ h => h
                  case hy10n410 => exact Or.inl ⟨by rfl, by (intro w hSw; (try dsimp only at hSw); go_simp; (try with_reducible rfl))⟩
                  try simp only [Act.put, List.setIfInBounds_toArray, List.set_cons_zero, List.set_cons_succ]
                  refine wpAnyH_ready (rs := [11]) (by kernel_rfl) (by simp) ?_
                  refine AllReadyH.cons (by (simp only [List.getElem?_toArray, List.getElem?_cons_succ, List.getElem?_cons_zero]; rfl)) (fun K hK => ?_) AllReadyH.nil
                  go_simp
                  generalize hy : y3.alloc _ = y4
                  obtain ⟨b9, k8⟩ := Bx.alloc hy
                  clear hy
                  obtain ⟨gx, hgx⟩ : ∃ gx, y3.heap.size = gx := ⟨_, rfl⟩
                  have hgx1 : w1.heap.size ≤ gx := by rw [← hgx]; exact SS.out.z
                  have NV := Lib.hid (fun i hi => (show i ≠ gx by have := own_lt OV.out i hi; omega))
                  replace OV := Lib.hid (own_below OV.out b9 (own_lt OV.out))
                  replace SS := Lib.hid (SS.out.below b9 hgl)
                  rw [hgx] at k8 ⊢
                  clear hgx b9
                  have KX := Lib.hid k8
                  clear k8
                  have q0 := SS.out.D.bx4.four
                  refine hK.out _ _ (by first | (dsimp only; exact q0) | exact q0) (fun hHeld => ?_)
                  clear q0
                  clear hK K
                  try simp only [Act.put, List.setIfInBounds_toArray, List.set_cons_zero, List.set_cons_succ]
                  have c8 := KX.out.2.1
                  have f8 := KX.out.2.2
                  refine wpAnyH_ready (rs := [12]) (by kernel_rfl) (by simp) ?_
                  refine AllReadyH.cons (by (simp only [List.getElem?_toArray, List.getElem?_cons_succ, List.getElem?_cons_zero]; rfl)) (fun K hK => ?_) AllReadyH.nil
                  go_simp
                  have K10 := Lib.hid ((((KX.out.set 0 (by simp) (.slice va' P.ws.length vc')).set 1 (by simp) (.int .i64 h)).set 2 (by simp) (.int .i64 b)).set 3 (by simp) (.int .i64 P.next))
                  have g10 := (((grownBy.setCell y4 gx 0 (.slice va' P.ws.length vc')).trans' (grownBy.setCell _ gx 1 (.int .i64 h))).trans' (grownBy.setCell _ gx 2 (.int .i64 b))).trans' (grownBy.setCell _ gx 3 (.int .i64 P.next))
                  have D10 := Lib.hid (SS.out.D.step g10 hgl (fun i hi => by have e := Option.some.inj hi; have h1 := HOLD.out; have h2 := SS.out.D.grow.size; have h3 := HW1.out; exact ⟨by omega, by omega, by omega, fun hh => by have := h1.2.2 i (.inl hh); omega, fun hh => by have := h1.2.2 i (.inr hh); omega⟩))
                  have O10 := Lib.hid (OV.out.kept g10 (by rcases hv : Value.ownBlock (.slice va' P.ws.length vc') with _ | i; exact .inl rfl; exact .inr (fun e => NV.out i hv (Option.some.inj e))))
                  clear SS KX OV NV g10 c8 f8
                  generalize hww : World.setCell _ _ _ = W4 at K10 D10 O10 ⊢
                  clear hww
                  have q0 := D10.out.bx4.four
                  refine hK.out _ _ (by first | (dsimp only; exact q0) | exact q0) (fun hHeld => ?_)
                  clear q0 hK K
                  try simp only [Act.put, List.setIfInBounds_toArray, List.set_cons_zero, List.set_cons_succ]
                  refine' wpAnyH_take (i := 13) (oi := _) (v := _) ?hi13n447 (by kernel_rfl) (by kernel_rfl) (by kernel_rfl) ?hQ13n447 ?hy13n447 (by assumption) ?rest13n447
                  case hi13n447 => (simp only [List.getElem?_toArray, List.getElem?_cons_succ, List.getElem?_cons_zero]; rfl)
                  case hQ13n447 => exact fun _ _ _ h => h
                  case hy13n447 => exact Or.inl ⟨by rfl, by (intro w hSw; (try dsimp only at hSw); go_simp; (try with_reducible rfl))⟩
                  try simp only [Act.put, List.setIfInBounds_toArray, List.set_cons_zero, List.set_cons_succ]
                  refine' wpAnyH_take (i := 14) (oi := _) (v := _) ?hi14n447 (by kernel_rfl) (by kernel_rfl) (by kernel_rfl) ?hQ14n447 ?hy14n447 (by assumption) ?rest14n447
                  case hi14n447 => (simp only [List.getElem?_toArray, List.getElem?_cons_succ, List.getElem?_cons_zero]; rfl)
                  case hQ14n447 => exact fun _ _ _ h => h
                  case hy14n447 => exact Or.inl ⟨by rfl, by (intro w hSw; (try dsimp only at hSw); go_simp; (try with_reducible rfl))⟩
                  try simp only [Act.put, List.setIfInBounds_toArray, List.set_cons_zero, List.set_cons_succ]
                  refine wpAnyH_done (by kernel_rfl) ?_ _
                  go_wp2_with fail
                  go_meet
                  exact ⟨gx, va', vc', P, rfl, rfl, rfl, D10.out, K10.out, O10.out, HPF.out, hgx1, GV.out⟩
                · --
                  go_simp
                  generalize hy : y2.alloc _ = y5
                  obtain ⟨b9, k8⟩ := Bx.alloc hy
                  clear hy
                  obtain ⟨gx, hgx⟩ : ∃ gx, y2.heap.size = gx := ⟨_, rfl⟩
                  have hgx1 : w1.heap.size ≤ gx := by rw [← hgx]; exact SS.out.z
                  replace SS := Lib.hid (SS.out.below b9 hgl)
                  rw [hgx] at k8 ⊢
                  clear hgx b9
                  have KX := Lib.hid k8
                  clear k8
                  have q0 := SS.out.D.bx4.four
                  refine hK.out _ _ (by first | (dsimp only; exact q0) | exact q0) (fun hHeld => ?_)
                  clear q0
                  clear hK K
                  try simp only [Act.put, List.setIfInBounds_toArray, List.set_cons_zero, List.set_cons_succ]
                  refine wpAnyH_ready (rs := [6]) (by kernel_rfl) (by simp) ?_
                  refine AllReadyH.cons (by (simp only [List.getElem?_toArray, List.getElem?_cons_succ, List.getElem?_cons_zero]; rfl)) (fun K hK => ?_) AllReadyH.nil
                  go_simp
                  have HAl := sAlloc_any _ _ ws ks h b n bf tg y5 (Rd.of_own SS.out.D.d.own) SS.out.D.d.hin.ok (by have := SS.out.D.d.hin.le; omega) (Rd.of_own SS.out.K) IY.out (by omega) SS.out.D.d.hin.h SS.out.D.d.hin.b SS.out.D.d.hin.n
                  have HPF := SS.out.D.d.hin.alloc (f := bf) (tag := tg) IY.out
                  obtain ⟨P, hP⟩ : ∃ P, allocOf ws h b n bf tg ks = P := ⟨_, rfl⟩
                  rw [hP] at HAl HPF
                  clear hP
                  replace HPF := Lib.hid (And.intro HPF.1 HPF.2.2.1)
                  replace HAl := Lib.hid HAl
                  refine HAl.out.mono ?_
                  rintro e y6 ⟨⟨v', rfl, o'⟩, b'⟩
                  obtain ⟨va', vc', rfl⟩ := own_form o'
                  have GV := Lib.hid (fun i hi => Nat.le_trans SS.out.z (o'.lt i hi).1)
                  have NV := Lib.hid (fun i hi => Nat.ne_of_gt (Nat.lt_of_lt_of_le KX.out.1 (o'.lt i hi).1))
                  replace KX := Lib.hid (KX.out.below b' KX.out.1)
                  have OV := Lib.hid (own_base o' (base' := w.heap.size) SS.out.D.grow.size)
                  replace SS := Lib.hid (SS.out.below b' hgl)
                  clear HAl o' b'
                  have q0 := SS.out.D.bx4.four
                  dsimp only
                  refine hK.out _ _ (by first | (dsimp only; exact q0) | exact q0) (fun hHeld => ?_)
                  clear q0
                  clear hK K
                  try simp only [Act.put, List.setIfInBounds_toArray, List.set_cons_zero, List.set_cons_succ]
                  refine' wpAnyH_take (i := 7) (oi := _) (v := _) ?hi7n494 (by kernel_rfl) (by kernel_rfl) (by kernel_rfl) ?hQ7n494 ?hy7n494 (by assumption) ?rest7n494
                  case hi7n494 => (simp only [List.getElem?_toArray, List.getElem?_cons_succ, List.getElem?_cons_zero]; rfl)
                  case hQ7n494 => exact fun _ _ _ h => h
                  case hy7n494 => exact Or.inl ⟨by rfl, by (intro w hSw; (try dsimp only at hSw); go_simp; (try with_reducible rfl))⟩
                  try simp only [Act.put, List.setIfInBounds_toArray, List.set_cons_zero, List.set_cons_succ]
                  refine' wpAnyH_take (i := 8) (oi := _) (v := _) ?hi8n494 (by kernel_rfl) (by kernel_rfl) (by kernel_rfl) ?hQ8n494 ?hy8n494 (by assumption) ?rest8n494
                  case hi8n494 => (simp only [List.getElem?_toArray, List.getElem?_cons_succ, List.getElem?_cons_zero]; rfl)
                  case hQ8n494 => exact fun _ _ _ h => h
                  case hy8n494 => exact Or.inl ⟨by rfl, by (intro w hSw; (try dsimp only at hSw); go_simp; (try with_reducible rfl))⟩
                  try simp only [Act.put, List.setIfInBounds_toArray, List.set_cons_zero, List.set_cons_succ]
                  refine' wpAnyH_take (i := 9) (oi := _) (v := _) ?hi9n494 (by kernel_rfl) (by kernel_rfl) (by kernel_rfl) ?hQ9n494 ?hy9n494 (by assumption) ?rest9n494
                  case hi9n494 => (simp only [List.getElem?_toArray, List.getElem?_cons_succ, List.getElem?_cons_zero]; rfl)
                  case hQ9n494 => exact fun _ _ _ h => h
                  case hy9n494 => exact Or.inl ⟨by rfl, by (intro w hSw; (try dsimp only at hSw); go_simp; (try with_reducible rfl))⟩
                  try simp only [Act.put, List.setIfInBounds_toArray, List.set_cons_zero, List.set_cons_succ]
                  refine' wpAnyH_take (i := 10) (oi := _) (v := _) ?hi10n494 (by kernel_rfl) (by kernel_rfl) (by kernel_rfl) ?hQ10n494 ?hy10n494 (by assumption) ?rest10n494
                  case hi10n494 => (simp only [List.getElem?_toArray, List.getElem?_cons_succ, List.getElem?_cons_zero]; rfl)
                  case hQ10n494 => exact fun _ _ _ h => h
                  case hy10n494 => exact Or.inl ⟨by rfl, by (intro w hSw; (try dsimp only at hSw); go_simp; (try with_reducible rfl))⟩
                  try simp only [Act.put, List.setIfInBounds_toArray, List.set_cons_zero, List.set_cons_succ]
                  have c8 := KX.out.2.1
                  have f8 := KX.out.2.2
                  refine wpAnyH_ready (rs := [12]) (by kernel_rfl) (by simp) ?_
                  refine AllReadyH.cons (by (simp only [List.getElem?_toArray, List.getElem?_cons_succ, List.getElem?_cons_zero]; rfl)) (fun K hK => ?_) AllReadyH.nil
                  go_simp
                  have K10 := Lib.hid ((((KX.out.set 0 (by simp) (.slice va' P.ws.length vc')).set 1 (by simp) (.int .i64 h)).set 2 (by simp) (.int .i64 b)).set 3 (by simp) (.int .i64 P.next))
                  have g10 := (((grownBy.setCell y6 gx 0 (.slice va' P.ws.length vc')).trans' (grownBy.setCell _ gx 1 (.int .i64 h))).trans' (grownBy.setCell _ gx 2 (.int .i64 b))).trans' (grownBy.setCell _ gx 3 (.int .i64 P.next))
                  have D10 := Lib.hid (SS.out.D.step g10 hgl (fun i hi => by have e := Option.some.inj hi; have h1 := HOLD.out; have h2 := SS.out.D.grow.size; have h3 := HW1.out; exact ⟨by omega, by omega, by omega, fun hh => by have := h1.2.2 i (.inl hh); omega, fun hh => by have := h1.2.2 i (.inr hh); omega⟩))
                  have O10 := Lib.hid (OV.out.kept g10 (by rcases hv : Value.ownBlock (.slice va' P.ws.length vc') with _ | i; exact .inl rfl; exact .inr (fun e => NV.out i hv (Option.some.inj e))))
                  clear SS KX OV NV g10 c8 f8
                  generalize hww : World.setCell _ _ _ = W4 at K10 D10 O10 ⊢
                  clear hww
                  have q0 := D10.out.bx4.four
                  refine hK.out _ _ (by first | (dsimp only; exact q0) | exact q0) (fun hHeld => ?_)
                  clear q0 hK K
                  try simp only [Act.put, List.setIfInBounds_toArray, List.set_cons_zero, List.set_cons_succ]
                  refine' wpAnyH_take (i := 13) (oi := _) (v := _) ?hi13n511 (by kernel_rfl) (by kernel_rfl) (by kernel_rfl) ?hQ13n511 ?hy13n511 (by assumption) ?rest13n511
                  case hi13n511 => (simp only [List.getElem?_toArray, List.getElem?_cons_succ, List.getElem?_cons_zero]; rfl)
                  case hQ13n511 => exact fun _ _ _ h => h
                  case hy13n511 => exact Or.inl ⟨by rfl, by (intro w hSw; (try dsimp only at hSw); go_simp; (try with_reducible rfl))⟩
                  try simp only [Act.put, List.setIfInBounds_toArray, List.set_cons_zero, List.set_cons_succ]
                  refine' wpAnyH_take (i := 14) (oi := _) (v := _) ?hi14n511 (by kernel_rfl) (by kernel_rfl) (by kernel_rfl) ?hQ14n511 ?hy14n511 (by assumption) ?rest14n511
                  case hi14n511 => (simp only [List.getElem?_toArray, List.getElem?_cons_succ, List.getElem?_cons_zero]; rfl)
                  case hQ14n511 => exact fun _ _ _ h => h
                  case hy14n511 => exact Or.inl ⟨by rfl, by (intro w hSw; (try dsimp only at hSw); go_simp; (try with_reducible rfl))⟩
                  try simp only [Act.put, List.setIfInBounds_toArray, List.set_cons_zero, List.set_cons_succ]
                  refine wpAnyH_done (by kernel_rfl) ?_ _
                  go_wp2_with fail
                  go_meet
                  exact ⟨gx, va', vc', P, rfl, rfl, rfl, D10.out, K10.out, O10.out, HPF.out, hgx1, GV.out⟩
              · --
                go_simp
                generalize hy : y1.alloc _ = y7
                obtain ⟨b9, k8⟩ := Bx.alloc hy
                clear hy
                obtain ⟨gx, hgx⟩ : ∃ gx, y1.heap.size = gx := ⟨_, rfl⟩
                have hgx1 : w1.heap.size ≤ gx := by rw [← hgx]; exact SS.out.z
                replace SS := Lib.hid (SS.out.below b9 hgl)
                rw [hgx] at k8 ⊢
                clear hgx b9
                have KX := Lib.hid k8
                clear k8
                have q0 := SS.out.D.bx4.four
                refine hK.out _ _ (by first | (dsimp only; exact q0) | exact q0) (fun hHeld => ?_)
                clear q0
                clear hK K
                try simp only [Act.put, List.setIfInBounds_toArray, List.set_cons_zero, List.set_cons_succ]
                refine wpAnyH_ready (rs := [4]) (by kernel_rfl) (by simp) ?_
                refine AllReadyH.cons (by (simp only [List.getElem?_toArray, List.getElem?_cons_succ, List.getElem?_cons_zero]; rfl)) (fun K hK => ?_) AllReadyH.nil
                go_simp
                refine (HB.out y7 SS.out.D.cur SS.out.D.grow 5 (by unfold i64In; omega)).mono ?_
                rintro e y8 ⟨⟨tg, rfl, _, htg⟩, c1, g1⟩
                clear htg
                replace KX := Lib.hid (KX.out.grown g1 (fun e => by have := Option.some.inj e; omega))
                replace SS := Lib.hid (SS.out.keep g1 c1 hgl Z1)
                clear c1 g1
                have q0 := SS.out.D.bx4.four
                dsimp only
                refine hK.out _ _ (by first | (dsimp only; exact q0) | exact q0) (fun hHeld => ?_)
                clear q0
                clear hK K
                try simp only [Act.put, List.setIfInBounds_toArray, List.set_cons_zero, List.set_cons_succ]
                refine wpAnyH_ready (rs := [6]) (by kernel_rfl) (by simp) ?_
                refine AllReadyH.cons (by (simp only [List.getElem?_toArray, List.getElem?_cons_succ, List.getElem?_cons_zero]; rfl)) (fun K hK => ?_) AllReadyH.nil
                go_simp
                have HAl := sAlloc_any _ _ ws ks h b n bf tg y8 (Rd.of_own SS.out.D.d.own) SS.out.D.d.hin.ok (by have := SS.out.D.d.hin.le; omega) (Rd.of_own SS.out.K) IY.out (by omega) SS.out.D.d.hin.h SS.out.D.d.hin.b SS.out.D.d.hin.n
                have HPF := SS.out.D.d.hin.alloc (f := bf) (tag := tg) IY.out
                obtain ⟨P, hP⟩ : ∃ P, allocOf ws h b n bf tg ks = P := ⟨_, rfl⟩
                rw [hP] at HAl HPF
                clear hP
                replace HPF := Lib.hid (And.intro HPF.1 HPF.2.2.1)
                replace HAl := Lib.hid HAl
                refine HAl.out.mono ?_
                rintro e y9 ⟨⟨v', rfl, o'⟩, b'⟩
                obtain ⟨va', vc', rfl⟩ := own_form o'
                have GV := Lib.hid (fun i hi => Nat.le_trans SS.out.z (o'.lt i hi).1)
                have NV := Lib.hid (fun i hi => Nat.ne_of_gt (Nat.lt_of_lt_of_le KX.out.1 (o'.lt i hi).1))
                replace KX := Lib.hid (KX.out.below b' KX.out.1)
                have OV := Lib.hid (own_base o' (base' := w.heap.size) SS.out.D.grow.size)
                replace SS := Lib.hid (SS.out.below b' hgl)
                clear HAl o' b'
                have q0 := SS.out.D.bx4.four
                dsimp only
                refine hK.out _ _ (by first | (dsimp only; exact q0) | exact q0) (fun hHeld => ?_)
                clear q0
                clear hK K
                try simp only [Act.put, List.setIfInBounds_toArray, List.set_cons_zero, List.set_cons_succ]
                refine' wpAnyH_take (i := 7) (oi := _) (v := _) ?hi7n573 (by kernel_rfl) (by kernel_rfl) (by kernel_rfl) ?hQ7n573 ?hy7n573 (by assumption) ?rest7n573
                case hi7n573 => (simp only [List.getElem?_toArray, List.getElem?_cons_succ, List.getElem?_cons_zero]; rfl)
                case hQ7n573 => exact fun _ _ _ h => h
                case hy7n573 => exact Or.inl ⟨by rfl, by (intro w hSw; (try dsimp only at hSw); go_simp; (try with_reducible rfl))⟩
                try simp only [Act.put, List.setIfInBounds_toArray, List.set_cons_zero, List.set_cons_succ]
                refine' wpAnyH_take (i := 8) (oi := _) (v := _) ?hi8n573 (by kernel_rfl) (by kernel_rfl) (by kernel_rfl) ?hQ8n573 ?hy8n573 (by assumption) ?rest8n573
                case hi8n573 => (simp only [List.getElem?_toArray, List.getElem?_cons_succ, List.getElem?_cons_zero]; rfl)
                case hQ8n573 => exact fun _ _ _ h => h
                case hy8n573 => exact Or.inl ⟨by rfl, by (intro w hSw; (try dsimp only at hSw); go_simp; (try with_reducible rfl))⟩
                try simp only [Act.put, List.setIfInBounds_toArray, List.set_cons_zero, List.set_cons_succ]
                refine' wpAnyH_take (i := 9) (oi := _) (v := _) ?hi9n573 (by kernel_rfl) (by kernel_rfl) (by kernel_rfl) ?hQ9n573 ?hy9n573 (by assumption) ?rest9n573
                case hi9n573 => (simp only [List.getElem?_toArray, List.getElem?_cons_succ, List.getElem?_cons_zero]; rfl)
                case hQ9n573 => exact fun _ _ _ h => h
                case hy9n573 => exact Or.inl ⟨by rfl, by (intro w hSw; (try dsimp only at hSw); go_simp; (try with_reducible rfl))⟩
                try simp only [Act.put, List.setIfInBounds_toArray, List.set_cons_zero, List.set_cons_succ]
                refine' wpAnyH_take (i := 10) (oi := _) (v := _) ?hi10n573 (by kernel_rfl) (by kernel_rfl) (by kernel_rfl) ?hQ10n573 ?hy10n573 (by assumption) ?rest10n573
                case hi10n573 => (simp only [List.getElem?_toArray, List.getElem?_cons_succ, List.getElem?_cons_zero]; rfl)
                case hQ10n573 => exact fun _ _ _ h => h
                case hy10n573 => exact Or.inl ⟨by rfl, by (intro w hSw; (try dsimp only at hSw); go_simp; (try with_reducible rfl))⟩
                try simp only [Act.put, List.setIfInBounds_toArray, List.set_cons_zero, List.set_cons_succ]
                have c8 := KX.out.2.1
                have f8 := KX.out.2.2
                refine wpAnyH_ready (rs := [12]) (by kernel_rfl) (by simp) ?_
                refine AllReadyH.cons (by (simp only [List.getElem?_toArray, List.getElem?_cons_succ, List.getElem?_cons_zero]; rfl)) (fun K hK => ?_) AllReadyH.nil
                go_simp
                have K10 := Lib.hid ((((KX.out.set 0 (by simp) (.slice va' P.ws.length vc')).set 1 (by simp) (.int .i64 h)).set 2 (by simp) (.int .i64 b)).set 3 (by simp) (.int .i64 P.next))
                have g10 := (((grownBy.setCell y9 gx 0 (.slice va' P.ws.length vc')).trans' (grownBy.setCell _ gx 1 (.int .i64 h))).trans' (grownBy.setCell _ gx 2 (.int .i64 b))).trans' (grownBy.setCell _ gx 3 (.int .i64 P.next))
                have D10 := Lib.hid (SS.out.D.step g10 hgl (fun i hi => by have e := Option.some.inj hi; have h1 := HOLD.out; have h2 := SS.out.D.grow.size; have h3 := HW1.out; exact ⟨by omega, by omega, by omega, fun hh => by have := h1.2.2 i (.inl hh); omega, fun hh => by have := h1.2.2 i (.inr hh); omega⟩))
                have O10 := Lib.hid (OV.out.kept g10 (by rcases hv : Value.ownBlock (.slice va' P.ws.length vc') with _ | i; exact .inl rfl; exact .inr (fun e => NV.out i hv (Option.some.inj e))))
                clear SS KX OV NV g10 c8 f8
                generalize hww : World.setCell _ _ _ = W4 at K10 D10 O10 ⊢
                clear hww
                have q0 := D10.out.bx4.four
                refine hK.out _ _ (by first | (dsimp only; exact q0) | exact q0) (fun hHeld => ?_)
                clear q0 hK K
                try simp only [Act.put, List.setIfInBounds_toArray, List.set_cons_zero, List.set_cons_succ]
                refine' wpAnyH_take (i := 13) (oi := _) (v := _) ?hi13n590 (by kernel_rfl) (by kernel_rfl) (by kernel_rfl) ?hQ13n590 ?hy13n590 (by assumption) ?rest13n590
                case hi13n590 => (simp only [List.getElem?_toArray, List.getElem?_cons_succ, List.getElem?_cons_zero]; rfl)
                case hQ13n590 => exact fun _ _ _ h => h
                case hy13n590 => exact Or.inl ⟨by rfl, by (intro w hSw; (try dsimp only at hSw); go_simp; (try with_reducible rfl))⟩
                try simp only [Act.put, List.setIfInBounds_toArray, List.set_cons_zero, List.set_cons_succ]
                refine' wpAnyH_take (i := 14) (oi := _) (v := _) ?hi14n590 (by kernel_rfl) (by kernel_rfl) (by kernel_rfl) ?hQ14n590 ?hy14n590 (by assumption) ?rest14n590
                case hi14n590 => (simp only [List.getElem?_toArray, List.getElem?_cons_succ, List.getElem?_cons_zero]; rfl)
                case hQ14n590 => exact fun _ _ _ h => h
                case hy14n590 => exact Or.inl ⟨by rfl, by (intro w hSw; (try dsimp only at hSw); go_simp; (try with_reducible rfl))⟩
                try simp only [Act.put, List.setIfInBounds_toArray, List.set_cons_zero, List.set_cons_succ]
                refine wpAnyH_done (by kernel_rfl) ?_ _
                go_wp2_with fail
                go_meet
                exact ⟨gx, va', vc', P, rfl, rfl, rfl, D10.out, K10.out, O10.out, HPF.out, hgx1, GV.out⟩
            · --
              go_simp
              generalize hy : xd.alloc _ = y10
              obtain ⟨b9, k8⟩ := Bx.alloc hy
              clear hy
              obtain ⟨gx, hgx⟩ : ∃ gx, xd.heap.size = gx := ⟨_, rfl⟩
              have hgx1 : w1.heap.size ≤ gx := by rw [← hgx]; exact SS.out.z
              replace SS := Lib.hid (SS.out.below b9 hgl)
              rw [hgx] at k8 ⊢
              clear hgx b9
              have KX := Lib.hid k8
              clear k8
              have q0 := SS.out.D.bx4.four
              refine hK.out _ _ (by first | (dsimp only; exact q0) | exact q0) (fun hHeld => ?_)
              clear q0
              clear hK K
              try simp only [Act.put, List.setIfInBounds_toArray, List.set_cons_zero, List.set_cons_succ]
              refine wpAnyH_ready (rs := [2]) (by kernel_rfl) (by simp) ?_
              refine AllReadyH.cons (by (simp only [List.getElem?_toArray, List.getElem?_cons_succ, List.getElem?_cons_zero]; rfl)) (fun K hK => ?_) AllReadyH.nil
              go_simp
              refine (HO.out y10 SS.out.D.cur SS.out.D.grow 4 (by unfold i64In; omega)).mono ?_
              rintro e y11 ⟨⟨bf, rfl⟩, c1, g1⟩
              replace KX := Lib.hid (KX.out.grown g1 (fun e => by have := Option.some.inj e; omega))
              replace SS := Lib.hid (SS.out.keep g1 c1 hgl Z1)
              clear c1 g1
              have q0 := SS.out.D.bx4.four
              dsimp only
              refine hK.out _ _ (by first | (dsimp only; exact q0) | exact q0) (fun hHeld => ?_)
              clear q0
              clear hK K
              try simp only [Act.put, List.setIfInBounds_toArray, List.set_cons_zero, List.set_cons_succ]
              refine wpAnyH_ready (rs := [4]) (by kernel_rfl) (by simp) ?_
              refine AllReadyH.cons (by (simp only [List.getElem?_toArray, List.getElem?_cons_succ, List.getElem?_cons_zero]; rfl)) (fun K hK => ?_) AllReadyH.nil
              go_simp
              refine (HB.out y11 SS.out.D.cur SS.out.D.grow 5 (by unfold i64In; omega)).mono ?_
              rintro e y12 ⟨⟨tg, rfl, _, htg⟩, c1, g1⟩
              clear htg
              replace KX := Lib.hid (KX.out.grown g1 (fun e => by have := Option.some.inj e; omega))
              replace SS := Lib.hid (SS.out.keep g1 c1 hgl Z1)
              clear c1 g1
              have q0 := SS.out.D.bx4.four
              dsimp only
              refine hK.out _ _ (by first | (dsimp only; exact q0) | exact q0) (fun hHeld => ?_)
              clear q0
              clear hK K
              try simp only [Act.put, List.setIfInBounds_toArray, List.set_cons_zero, List.set_cons_succ]
              refine wpAnyH_ready (rs := [6]) (by kernel_rfl) (by simp) ?_
              refine AllReadyH.cons (by (simp only [List.getElem?_toArray, List.getElem?_cons_succ, List.getElem?_cons_zero]; rfl)) (fun K hK => ?_) AllReadyH.nil
              go_simp
              have HAl := sAlloc_any _ _ ws ks h b n bf tg y12 (Rd.of_own SS.out.D.d.own) SS.out.D.d.hin.ok (by have := SS.out.D.d.hin.le; omega) (Rd.of_own SS.out.K) IY.out (by omega) SS.out.D.d.hin.h SS.out.D.d.hin.b SS.out.D.d.hin.n
              have HPF := SS.out.D.d.hin.alloc (f := bf) (tag := tg) IY.out
              obtain ⟨P, hP⟩ : ∃ P, allocOf ws h b n bf tg ks = P := ⟨_, rfl⟩
              rw [hP] at HAl HPF
              clear hP
              replace HPF := Lib.hid (And.intro HPF.1 HPF.2.2.1)
              replace HAl := Lib.hid HAl
              refine HAl.out.mono ?_
              rintro e y13 ⟨⟨v', rfl, o'⟩, b'⟩
              obtain ⟨va', vc', rfl⟩ := own_form o'
              have GV := Lib.hid (fun i hi => Nat.le_trans SS.out.z (o'.lt i hi).1)
              have NV := Lib.hid (fun i hi => Nat.ne_of_gt (Nat.lt_of_lt_of_le KX.out.1 (o'.lt i hi).1))
              replace KX := Lib.hid (KX.out.below b' KX.out.1)
              have OV := Lib.hid (own_base o' (base' := w.heap.size) SS.out.D.grow.size)
              replace SS := Lib.hid (SS.out.below b' hgl)
              clear HAl o' b'
              have q0 := SS.out.D.bx4.four
              dsimp only
              refine hK.out _ _ (by first | (dsimp only; exact q0) | exact q0) (fun hHeld => ?_)
              clear q0
              clear hK K
              try simp only [Act.put, List.setIfInBounds_toArray, List.set_cons_zero, List.set_cons_succ]
              refine' wpAnyH_take (i := 7) (oi := _) (v := _) ?hi7n666 (by kernel_rfl) (by kernel_rfl) (by kernel_rfl) ?hQ7n666 ?hy7n666 (by assumption) ?rest7n666
              case hi7n666 => (simp only [List.getElem?_toArray, List.getElem?_cons_succ, List.getElem?_cons_zero]; rfl)
              case hQ7n666 => exact fun _ _ _ h => h
              case hy7n666 => exact Or.inl ⟨by rfl, by (intro w hSw; (try dsimp only at hSw); go_simp; (try with_reducible rfl))⟩
              try simp only [Act.put, List.setIfInBounds_toArray, List.set_cons_zero, List.set_cons_succ]
              refine' wpAnyH_take (i := 8) (oi := _) (v := _) ?hi8n666 (by kernel_rfl) (by kernel_rfl) (by kernel_rfl) ?hQ8n666 ?hy8n666 (by assumption) ?rest8n666
              case hi8n666 => (simp only [List.getElem?_toArray, List.getElem?_cons_succ, List.getElem?_cons_zero]; rfl)
              case hQ8n666 => exact fun _ _ _ h => h
              case hy8n666 => exact Or.inl ⟨by rfl, by (intro w hSw; (try dsimp only at hSw); go_simp; (try with_reducible rfl))⟩
              try simp only [Act.put, List.setIfInBounds_toArray, List.set_cons_zero, List.set_cons_succ]
              refine' wpAnyH_take (i := 9) (oi := _) (v := _) ?hi9n666 (by kernel_rfl) (by kernel_rfl) (by kernel_rfl) ?hQ9n666 ?hy9n666 (by assumption) ?rest9n666
              case hi9n666 => (simp only [List.getElem?_toArray, List.getElem?_cons_succ, List.getElem?_cons_zero]; rfl)
              case hQ9n666 => exact fun _ _ _ h => h
              case hy9n666 => exact Or.inl ⟨by rfl, by (intro w hSw; (try dsimp only at hSw); go_simp; (try with_reducible rfl))⟩
              try simp only [Act.put, List.setIfInBounds_toArray, List.set_cons_zero, List.set_cons_succ]
              refine' wpAnyH_take (i := 10) (oi := _) (v := _) ?hi10n666 (by kernel_rfl) (by kernel_rfl) (by kernel_rfl) ?hQ10n666 ?hy10n666 (by assumption) ?rest10n666
              case hi10n666 => (simp only [List.getElem?_toArray, List.getElem?_cons_succ, List.getElem?_cons_zero]; rfl)
              case hQ10n666 => exact fun _ _ _ h => h
              case hy10n666 => exact Or.inl ⟨by rfl, by (intro w hSw; (try dsimp only at hSw); go_simp; (try with_reducible rfl))⟩
              try simp only [Act.put, List.setIfInBounds_toArray, List.set_cons_zero, List.set_cons_succ]
              have c8 := KX.out.2.1
              have f8 := KX.out.2.2
              refine wpAnyH_ready (rs := [12]) (by kernel_rfl) (by simp) ?_
              refine AllReadyH.cons (by (simp only [List.getElem?_toArray, List.getElem?_cons_succ, List.getElem?_cons_zero]; rfl)) (fun K hK => ?_) AllReadyH.nil
              go_simp
              have K10 := Lib.hid ((((KX.out.set 0 (by simp) (.slice va' P.ws.length vc')).set 1 (by simp) (.int .i64 h)).set 2 (by simp) (.int .i64 b)).set 3 (by simp) (.int .i64 P.next))
              have g10 := (((grownBy.setCell y13 gx 0 (.slice va' P.ws.length vc')).trans' (grownBy.setCell _ gx 1 (.int .i64 h))).trans' (grownBy.setCell _ gx 2 (.int .i64 b))).trans' (grownBy.setCell _ gx 3 (.int .i64 P.next))
              have D10 := Lib.hid (SS.out.D.step g10 hgl (fun i hi => by have e := Option.some.inj hi; have h1 := HOLD.out; have h2 := SS.out.D.grow.size; have h3 := HW1.out; exact ⟨by omega, by omega, by omega, fun hh => by have := h1.2.2 i (.inl hh); omega, fun hh => by have := h1.2.2 i (.inr hh); omega⟩))
              have O10 := Lib.hid (OV.out.kept g10 (by rcases hv : Value.ownBlock (.slice va' P.ws.length vc') with _ | i; exact .inl rfl; exact .inr (fun e => NV.out i hv (Option.some.inj e))))
              clear SS KX OV NV g10 c8 f8
              generalize hww : World.setCell _ _ _ = W4 at K10 D10 O10 ⊢
              clear hww
              have q0 := D10.out.bx4.four
              refine hK.out _ _ (by first | (dsimp only; exact q0) | exact q0) (fun hHeld => ?_)
              clear q0 hK K
              try simp only [Act.put, List.setIfInBounds_toArray, List.set_cons_zero, List.set_cons_succ]
              refine' wpAnyH_take (i := 13) (oi := _) (v := _) ?hi13n683 (by kernel_rfl) (by kernel_rfl) (by kernel_rfl) ?hQ13n683 ?hy13n683 (by assumption) ?rest13n683
              case hi13n683 => (simp only [List.getElem?_toArray, List.getElem?_cons_succ, List.getElem?_cons_zero]; rfl)
              case hQ13n683 => exact fun _ _ _ h => h
              case hy13n683 => exact Or.inl ⟨by rfl, by (intro w hSw; (try dsimp only at hSw); go_simp; (try with_reducible rfl))⟩
              try simp only [Act.put, List.setIfInBounds_toArray, List.set_cons_zero, List.set_cons_succ]
              refine' wpAnyH_take (i := 14) (oi := _) (v := _) ?hi14n683 (by kernel_rfl) (by kernel_rfl) (by kernel_rfl) ?hQ14n683 ?hy14n683 (by assumption) ?rest14n683
              case hi14n683 => (simp only [List.getElem?_toArray, List.getElem?_cons_succ, List.getElem?_cons_zero]; rfl)
              case hQ14n683 => exact fun _ _ _ h => h
              case hy14n683 => exact Or.inl ⟨by rfl, by (intro w hSw; (try dsimp only at hSw); go_simp; (try with_reducible rfl))⟩
              try simp only [Act.put, List.setIfInBounds_toArray, List.set_cons_zero, List.set_cons_succ]
              refine wpAnyH_done (by kernel_rfl) ?_ _
              go_wp2_with fail
              go_meet
              exact ⟨gx, va', vc', P, rfl, rfl, rfl, D10.out, K10.out, O10.out, HPF.out, hgx1, GV.out⟩
-- ORDERS END
          case rest =>
            obtain ⟨gx, va', vc', P, rfl, rfl, rfl, D, kx, ox, hpf, hgx, hvx⟩ := hcut
            have HPF := Lib.hid hpf
            have HVX := Lib.hid hvx
            clear hpf hvx q0 HSK
            have HDD := Lib.hid (show DSt w wc g g2 g4 cv zs.length k (.slice va ws.length vc) ws h b n (.slice (some ⟨gr, 0, none⟩) rs.length rcap) rs ∧ Bx wc gx #[.slice va' P.ws.length vc', .int .i64 h, .int .i64 b, .int .i64 P.next] ∧ wc.ownsRow w.heap.size 3 1 (.slice va' P.ws.length vc') P.ws.length (P.ws.map (Value.int .i64)) from ⟨D, kx, ox⟩)
            clear D kx ox
            obtain ⟨ok, hok⟩ : ∃ ok, P.ok = ok := ⟨_, rfl⟩
            rw [hok]
            clear hok
            go_upto_if 56 with fail
            go_cut [6] from 57 to 62 (fun s6 W => ∃ (v : Value) (ws : List Int) (h b n : Int) (rs : List Int), DSt w W g g2 g4 cv zs.length (k + 1) v ws h b n s6 rs)
            case first =>
              obtain ⟨D, kx, ox⟩ := HDD.out
              clear HDD
              cases ok
              · have HD2 := Lib.hid D
                clear D kx ox
                go_wp2_with fail
                go_meet
                exact ⟨_, _, _, _, _, _, HD2.out.more⟩
              · have k4 := D.bx4
                have ck4 := k4.2.1
                have yk4 := k4.1
                have zk4 := k4.2.2
                have ckx := kx.2.1
                have ykx := kx.1
                have hold := HOLD.out
                have hge := D.ge
                have g10 := (((grownBy.setCell wc g4 0 (.slice va' P.ws.length vc')).trans' (grownBy.setCell _ g4 1 (.int .i64 h))).trans' (grownBy.setCell _ g4 2 (.int .i64 b))).trans' (grownBy.setCell _ g4 3 (.int .i64 P.next))
                have k10 := ((((k4.set 0 (by simp) (.slice va' P.ws.length vc')).set 1 (by simp) (.int .i64 h)).set 2 (by simp) (.int .i64 b)).set 3 (by simp) (.int .i64 P.next))
                have D10 := Lib.hid (D.heap g10 hgl k10 ox HPF.out.1 (fun i hi => by have h1 := HVX.out i hi; exact ⟨by omega, by omega, fun hh => by have := hold.2.2 i (.inr hh); omega⟩))
                clear D k4 kx ox g10 k10 hold hge HOLD
                go_wp2_with fail
                generalize hww : World.setCell _ _ _ = W4 at D10 ⊢
                clear hww ck4 yk4 zk4 ckx ykx
                refine (sRefWord_any P.at_ W4).mono ?_
                rintro e w' ⟨rfl, rfl⟩
                have hpa : i64In (refW P.at_) := by unfold refW i64In; have := HPF.out.2; split <;> (rename_i hh; first | (have := inB_true.1 hh; omega) | omega)
                obtain ⟨y, hy⟩ : ∃ y, refW P.at_ = y := ⟨_, rfl⟩
                rw [hy] at hpa ⊢
                have HY := Lib.hid hpa
                clear hy hpa
                have hrl4 := D10.out.len
                have zw4 := D10.out.grow.size
                go_wp2_with (at_builtin; refine wpList_app1_at rfl _ _ 24 rfl w.heap.size 3 i0 (.int .i64 0) 1 8 Try.underlying24 hi hz0 hz1 hz2 rfl (by decide) _ _ _ rfl D10.out.d.rown #[_] rfl ?_ W4.heap.size rfl rfl ?_ ?_ ?_ ?_)
                · rfl
                · unfold maxLen; omega
                · omega
                · omega
                · intro v' w5 ho hg5 hat
                  have D11 := Lib.hid (D10.out.roots hg5 hgl (y := y) (by simpa using ho) hat HY.out)
                  clear ho hg5 hat D10 HY
                  go_wp2_with fail
                  go_meet
                  exact ⟨_, _, _, _, _, _, D11.out⟩
            case rest =>
              obtain ⟨v, ws, h, b, n, rs, D⟩ := hcut
              clear HDD HOLD HW1 IY
              rcases D.d.rown.2 with ⟨_, hv0⟩ | ⟨gr, rcap, rcur, rfl, _⟩
              · exact absurd hv0 (by have := D.d.pos; omega)
              obtain ⟨va, vc, rfl⟩ := own_form D.d.own
              have HDc := Lib.hid D
              clear D
              go_wp2_with fail
              refine (HO.out wc HDc.out.cur HDc.out.grow 9 (by unfold i64In; omega)).mono ?_
              rintro e w3 ⟨⟨bo, rfl⟩, c3, g3⟩
              have HD3 := Lib.hid (HDc.out.keep g3 c3 hgl)
              clear c3 g3 HDc
              cases bo
              · go_wp2
                go_roundw
                case rel => exact ⟨k + 1, _, _, _, _, _, _, by go_num, by omega, HD3.out⟩
                case measure => simp [intOf]; omega
              · have k4 := HD3.out.bx4
                have ck4 := k4.2.1
                have yk4 := k4.1
                have hrl3 := HD3.out.len
                have hCo2 := sCollect_any _ _ ws rs h b n w3 (Rd.of_own HD3.out.d.own) HD3.out.d.hin.ok (by have := HD3.out.d.hin.le; omega) (Rd.of_own HD3.out.d.rown) (by omega) HD3.out.d.hin.h HD3.out.d.hin.b HD3.out.d.hin.n
                have hPF := HD3.out.d.hin.coll HD3.out.d.rin
                obtain ⟨P, hP⟩ : ∃ P, collectOf ws h b n rs = P := ⟨_, rfl⟩
                rw [hP] at hCo2 hPF
                clear hP k4
                have HCo := Lib.hid hCo2
                have HPF := Lib.hid hPF
                clear hCo2 hPF
                go_wp2_with fail
                refine HCo.out.mono ?_
                rintro e w4 ⟨⟨uv, qv, rfl, ou, oq, hd⟩, b4⟩
                obtain ⟨ua, uc, rfl⟩ := own_form ou
                obtain ⟨qa, qc, rfl⟩ := own_form oq
                have D4 := HD3.out.below b4 hgl
                have k5 := D4.bx4
                have hbz := HD3.out.grow.size
                have hl2 := HD3.out.bx2.1
                have hl4 := HD3.out.bx4.1
                have g10 := (((grownBy.setCell w4 g4 0 (.slice ua P.ws.length uc)).trans' (grownBy.setCell _ g4 1 (.int .i64 h))).trans' (grownBy.setCell _ g4 2 (.int .i64 P.base))).trans' (grownBy.setCell _ g4 3 (.int .i64 P.next))
                have k10 := ((((k5.set 0 (by simp) (.slice ua P.ws.length uc)).set 1 (by simp) (.int .i64 h)).set 2 (by simp) (.int .i64 P.base)).set 3 (by simp) (.int .i64 P.next))
                have D10 := Lib.hid (D4.coll g10 hgl k10 (own_base ou hbz) HPF.out.1 (own_base oq hbz) HPF.out.2.2.1 HPF.out.2.2.2 hd (fun i hi => by
                  rcases hi with hi | hi
                  · have := (ou.lt i hi).1; omega
                  · have := (oq.lt i hi).1; omega))
                clear ck4 yk4 HCo HD3 D4 ou oq hd b4 g10 k10
                have ck5 := k5.2.1
                have yk5 := k5.1
                have zk5 := k5.2.2
                go_wp2
                generalize hww : World.setCell _ _ _ = W4 at D10 ⊢
                clear hww
                go_roundw
                case rel => exact ⟨k + 1, _, _, _, _, _, _, by go_num, by omega, D10.out⟩
                case measure => simp [intOf]; omega
    · have k4 := D1.bx4
      have k2 := D1.bx2
      have hge := D1.ge
      have HD := Lib.hid D1
      have hrl1 := D1.len
      have ck4 := k4.2.1
      have yk4 := k4.1
      have ck2 := k2.2.1
      have yk2 := k2.1
      have zk2 := k2.2.2
      clear D1
      go_wp2
      have hfin := HD.out.fin ((((grownBy.setCell w1 g2 0 (.slice va ws.length vc)).trans' (grownBy.setCell _ g2 1 (.int .i64 h))).trans' (grownBy.setCell _ g2 2 (.int .i64 b))).trans' (grownBy.setCell _ g2 3 (.int .i64 n))) hgl
      refine bodyPost_ret (v := .tuple #[.agg #[.slice va ws.length vc, .int .i64 h, .int .i64 b, .int .i64 n], .slice (some ⟨gr, 0, none⟩) rs.length rcap]) ?_ rfl ⟨_, ws, h, b, n, _, rs, rfl, hfin.1, by omega, hfin.2.1, hfin.2.2⟩
      simp [results, Try.results71, go_sem, ck2]

end Go.Proofs.Ytmcoidnonmmpjaa

/- The drawn heap, turned at a place. -/
namespace Go.Proofs.Ytmcoidnonmmpjaa
open Go.RowKit
set_option linter.unusedVariables false
set_option linter.unusedSimpArgs false

theorem Drwn.base {w0 w1 w : World} {v : Value} {ws : List Int} {h b n : Int} {vr : Value} {rs : List Int} (D : Drwn w1 w v ws h b n vr rs) (hb : w0.heap.size ≤ w1.heap.size) : Drwn w0 w v ws h b n vr rs :=
  ⟨own_base D.own hb, own_base D.rown hb, D.diff, D.hin, D.rin, D.pos⟩
theorem HeapIn.set {ws : List Int} {h b n : Int} (H : HeapIn ws h b n) (i : Nat) {y : Int} (hy : i64In y) : HeapIn (ws.set i y) h b n :=
  ⟨intsOk_of fun x hx => by
    rcases List.mem_or_eq_of_mem_set hx with hx | rfl
    · exact intsOk_mem H.ok x hx
    · exact hy, by rw [List.length_set]; exact H.pos, by rw [List.length_set]; exact H.le, H.h, H.b, H.n⟩
theorem DSt.setw {w0 w : World} {g g2 g4 m k : Nat} {cv : Value} {gv vc : Nat} {ws : List Int} {h b n : Int} {vr : Value} {rs : List Int} (D : DSt w0 w g g2 g4 cv m k (.slice (some ⟨gv, 0, none⟩) ws.length vc) ws h b n vr rs) (hgl : g < w0.heap.size) (i : Nat) (hi : i < ws.length) {y : Int} (hy : i64In y) :
    DSt w0 (w.setCell ⟨gv, i, none⟩ (.int .i64 y)) g g2 g4 cv m k (.slice (some ⟨gv, 0, none⟩) ws.length vc) (ws.set i y) h b n vr rs := by
  have hg := grownBy.setCell w gv i (.int .i64 y)
  have hl := (D.d.own.lt gv rfl).1
  have hf := D.far gv (.inl rfl)
  have ho := own_set D.d.own i hi (.int .i64 y)
  rw [← List.map_set] at ho
  exact ⟨⟨by rw [List.length_set]; exact ho, D.d.rown.kept hg (by
      rcases hv : vr.ownBlock with _ | j
      · exact .inl rfl
      · right; intro e; exact D.d.diff gv rfl (hv.trans e)), D.d.diff, D.d.hin.set i hy, D.d.rin, D.d.pos⟩, grow_step D.grow hg (fun j hj => by have := Option.some.inj hj; omega), D.cur.kept hg (fun e => by have := Option.some.inj e; omega),
    D.bx2.grown hg (fun e => by have := Option.some.inj e; omega), D.bx4.grown hg (fun e => by have := Option.some.inj e; omega), D.far, D.ge, D.len⟩

theorem Rd.grown_ne {B g : Nat} {k : IntKind} {w w' : World} {v : Value} {zs : List Int} (h : Rd B k w v zs) (hg : w.grownBy w' (some g)) (hv : ∀ a n c, v = .slice (some a) n c → a.block ≠ g) : Rd w'.heap.size k w' v zs := by
  rcases h with h | ⟨b, off, cap, h1, h2, h3, h4, h5⟩
  · exact .inl h
  · exact .inr ⟨b, off, cap, h1, Nat.lt_of_lt_of_le h3 hg.size, Nat.lt_of_lt_of_le h3 hg.size, h4, fun j hj => (hg.cell_far ⟨b, off + j, none⟩ h3 (by intro hh; have := Option.some.inj hh; exact hv _ _ _ h1 this)).trans (h5 j hj)⟩
/-- what a draw of a heap and words tells. -/
def DrwTold (W : World) (g : Nat) (cv : Value) (m L : Nat) (e : Ending) (w' : World) : Prop := ∃ v ws h b n vr rs, e = .returned (.tuple #[.agg #[v, .int .i64 h, .int .i64 b, .int .i64 n], vr]) ∧ Drwn W w' v ws h b n vr rs ∧ rs.length ≤ L ∧ W.grownBy w' (some g) ∧ Cur w' g cv m

set_option maxHeartbeats 3200000 in
set_option maxRecDepth 100000 in
theorem l17Draw_any {B g : Nat} (cv : Value) (zs : List Int) (w : World) (hC : Cur w g cv zs.length) (hr : Rd B .u8 w cv zs) (hz : bytesIn zs) (hl : zs.length ≤ 4294967296) (hg : B ≤ g) :
    Calls Try.prog 32 #[.pointer (some ⟨g, 0, none⟩)] w fun e w' => DrwTold w g cv zs.length 300 e w' := by
  obtain ⟨i0, hi, hz0, hz1, hz2⟩ := info_parts Try.infoI2
  have hgl := hC.lt
  have HR := Lib.hid (fun (W : World) (hC : Cur W g cv zs.length) (hw : w.grownBy W (some g)) => l17DrawRight_any cv zs W hC (hr.grown_row hw hg) hz hl hg)
  have HB := Lib.hid (fun (W : World) (hC : Cur W g cv zs.length) (hw : w.grownBy W (some g)) (n : Int) (hn : i64In n) => l1Below_any cv zs n W hC (hr.grown_row hw hg) hz hl hg hn)
  have HP := Lib.hid (fun (W : World) (hC : Cur W g cv zs.length) (hw : w.grownBy W (some g)) (B2 : Nat) (u : Value) (ys : List Int) (hy : Rd B2 .i64 W u ys) (h0 : 0 < ys.length) (h1 : ys.length ≤ 4294967296) (hne : ∀ a n c, u = .slice (some a) n c → a.block ≠ g) => l1PickInt_any cv u zs ys W hC (hr.grown_row hw hg) hz hl hg hy h0 h1 hne)
  have HC := Lib.hid hC
  clear hC hr hz
  go_enter Try.func32, Try.ntmps32
  go_wp2_with fail
  generalize hx : w.alloc _ = x
  obtain ⟨b0, k2⟩ := Bx.alloc hx
  have hxs : x.heap.size = w.heap.size + 1 := by rw [← hx]; simp
  clear hx
  have g1 := grow_of_below b0 (some g)
  have HC1 := Lib.hid (HR.out x (HC.out.below b0) g1)
  refine HC1.out.mono ?_
  rintro e w1 ⟨v, ws, h, b, n, vr, rs, rfl, D0, hrl, g2, c2⟩
  replace k2 := k2.grown g2 (fun e => by have := Option.some.inj e; omega)
  have g3 := grow_step g1 g2 (fun i hi => .inl (Option.some.inj hi).symm)
  have hz2' := g2.size
  rcases D0.rown.2 with ⟨_, hv0⟩ | ⟨gr, rcap, rcur, rfl, _⟩
  · exact absurd hv0 (by have := D0.pos; omega)
  rcases D0.own.2 with ⟨_, hv0⟩ | ⟨gv, vcap, vcur, rfl, _⟩
  · exact absurd hv0 (by have := D0.hin.pos; omega)
  have HD0 := Lib.hid D0
  have K2 := Lib.hid k2
  clear D0 k2 b0 g1 g2 HC1
  go_wp2_with fail
  generalize hx : w1.alloc _ = x1
  obtain ⟨b1, k4⟩ := Bx.alloc hx
  clear hx
  have D : DSt w x1 g w.heap.size w1.heap.size cv zs.length 120 (.slice (some ⟨gv, 0, none⟩) ws.length vcap) ws h b n (.slice (some ⟨gr, 0, none⟩) rs.length rcap) rs := by
    have D1 := HD0.out
    have l1 := own_lt D1.own
    have l2 := own_lt D1.rown
    have D2 : Drwn x x1 _ ws h b n _ rs := ⟨own_below D1.own b1 l1, own_below D1.rown b1 l2, D1.diff, D1.hin, D1.rin, D1.pos⟩
    refine ⟨D2.base (by omega), grow_step g3 (grow_of_below b1 (some g)) (fun i hi => .inl (Option.some.inj hi).symm), c2.below b1, K2.out.below b1 K2.out.1, k4, fun i hi => ?_, ⟨Nat.le_refl _, by omega, by omega⟩, by omega⟩
    rcases hi with hi | hi
    · have := (D1.own.lt i hi).1; have := l1 i hi; omega
    · have := (D1.rown.lt i hi).1; have := l2 i hi; omega
  obtain ⟨g2, hg2⟩ : ∃ g2, w.heap.size = g2 := ⟨_, rfl⟩
  obtain ⟨g4, hg4⟩ : ∃ g4, w1.heap.size = g4 := ⟨_, rfl⟩
  rw [hg4] at D ⊢
  have D' : DSt w x1 g g2 g4 cv zs.length 120 (.slice (some ⟨gv, 0, none⟩) ws.length vcap) ws h b n (.slice (some ⟨gr, 0, none⟩) rs.length rcap) rs := by rw [← hg2]; exact D
  have HD := Lib.hid D'
  rw [hg2]
  clear D D' hg2 hg4 hxs hz2' HD0 K2 k4 c2 g3 b1 HC
  refine (HB.out x1 HD.out.cur HD.out.grow 14 (by unfold i64In; omega)).mono ?_
  rintro e w2 ⟨⟨r, rfl, _, hr2⟩, c3, g3⟩
  replace HD := Lib.hid (HD.out.keep g3 c3 hgl)
  clear c3 g3 hr2
  have hr4 : r = 0 ∨ r = 1 ∨ r = 2 ∨ r = 3 ∨ r = 4 ∨ ((r == 0) = false ∧ (r == 1) = false ∧ (r == 2) = false ∧ (r == 3) = false ∧ (r == 4) = false) := by
    by_cases h0 : r = 0
    · exact .inl h0
    by_cases h1 : r = 1
    · exact .inr (.inl h1)
    by_cases h2 : r = 2
    · exact .inr (.inr (.inl h2))
    by_cases h3 : r = 3
    · exact .inr (.inr (.inr (.inl h3)))
    by_cases h4 : r = 4
    · exact .inr (.inr (.inr (.inr (.inl h4))))
    · exact .inr (.inr (.inr (.inr (.inr ⟨by simpa using h0, by simpa using h1, by simpa using h2, by simpa using h3, by simpa using h4⟩))))
  rcases hr4 with rfl | rfl | rfl | rfl | rfl | hr4
  · have k4 := HD.out.bx4
    have ck4 := k4.2.1
    have yk4 := k4.1
    have q0 := HD.out.bx4.four.1
    have hwl := HD.out.d.hin.le
    have hwp := HD.out.d.hin.pos
    go_upto_region 4 with fail
    clear ck4 yk4 k4
    refine wp_region_held_drew (S := (fun w' => w'.cell? ⟨g4, 0, none⟩ = some (.slice (some ⟨gv, 0, none⟩) ws.length vcap))) (by kernel_rfl) (by first | (dsimp only; exact q0) | (exact q0)) (fun hHeld => ?_)
    refine' wpAnyH_take (i := 0) (oi := _) (v := _) ?hi0n111 (by kernel_rfl) (by kernel_rfl) (by kernel_rfl) ?hQ0n111 ?hy0n111 (by assumption) ?rest0n111
    case hi0n111 => (simp only [List.getElem?_toArray, List.getElem?_cons_zero]; rfl)
    case hQ0n111 => exact fun _ _ _ h => h
    case hy0n111 => exact Or.inl ⟨by rfl, by (intro w hSw; (try dsimp only at hSw); go_simp; (try with_reducible rfl))⟩
    try simp only [Act.put, List.setIfInBounds_toArray, List.set_cons_zero, List.set_cons_succ]
    refine' wpAnyH_take (i := 1) (oi := _) (v := _) ?hi1n111 (by kernel_rfl) (by kernel_rfl) (by kernel_rfl) ?hQ1n111 ?hy1n111 (by assumption) ?rest1n111
    case hi1n111 => (simp only [List.getElem?_toArray, List.getElem?_cons_succ, List.getElem?_cons_zero]; rfl)
    case hQ1n111 => exact fun _ _ _ h => h
    case hy1n111 => exact Or.inl ⟨by rfl, by (intro w hSw; (try dsimp only at hSw); go_simp; (try with_reducible rfl))⟩
    try simp only [Act.put, List.setIfInBounds_toArray, List.set_cons_zero, List.set_cons_succ]
    refine' wpAnyH_take (i := 2) (oi := _) (v := _) ?hi2n111 (by kernel_rfl) (by kernel_rfl) (by kernel_rfl) ?hQ2n111 ?hy2n111 (by assumption) ?rest2n111
    case hi2n111 => (simp only [List.getElem?_toArray, List.getElem?_cons_succ, List.getElem?_cons_zero]; rfl)
    case hQ2n111 => exact fun _ _ _ h => h
    case hy2n111 => exact Or.inl ⟨by rfl, by (intro w hSw; (try dsimp only at hSw); go_simp; (try with_reducible rfl))⟩
    try simp only [Act.put, List.setIfInBounds_toArray, List.set_cons_zero, List.set_cons_succ]
    refine' wpAnyH_take (i := 3) (oi := _) (v := _) ?hi3n111 (by kernel_rfl) (by kernel_rfl) (by kernel_rfl) ?hQ3n111 ?hy3n111 (by assumption) ?rest3n111
    case hi3n111 => (simp only [List.getElem?_toArray, List.getElem?_cons_succ, List.getElem?_cons_zero]; rfl)
    case hQ3n111 => exact fun _ _ _ h => h
    case hy3n111 => exact Or.inl ⟨by rfl, by (intro w hSw; (try dsimp only at hSw); go_simp; (try with_reducible rfl))⟩
    try simp only [Act.put, List.setIfInBounds_toArray, List.set_cons_zero, List.set_cons_succ]
    refine' wpAnyH_take (i := 4) (oi := _) (v := _) ?hi4n111 (by kernel_rfl) (by kernel_rfl) (by kernel_rfl) ?hQ4n111 ?hy4n111 (by assumption) ?rest4n111
    case hi4n111 => (simp only [List.getElem?_toArray, List.getElem?_cons_succ, List.getElem?_cons_zero]; rfl)
    case hQ4n111 => exact fun _ _ _ h => h
    case hy4n111 => exact Or.inl ⟨by rfl, by (intro w hSw; (try dsimp only at hSw); go_simp; (try with_reducible rfl))⟩
    try simp only [Act.put, List.setIfInBounds_toArray, List.set_cons_zero, List.set_cons_succ]
    refine' wpAnyH_take (i := 5) (oi := _) (v := _) ?hi5n111 (by kernel_rfl) (by kernel_rfl) (by kernel_rfl) ?hQ5n111 ?hy5n111 (by assumption) ?rest5n111
    case hi5n111 => (simp only [List.getElem?_toArray, List.getElem?_cons_succ, List.getElem?_cons_zero]; rfl)
    case hQ5n111 => exact fun _ _ _ h => h
    case hy5n111 => exact Or.inl ⟨by rfl, by (intro w hSw; (try dsimp only at hSw); go_simp; (try with_reducible rfl))⟩
    try simp only [Act.put, List.setIfInBounds_toArray, List.set_cons_zero, List.set_cons_succ]
    refine' wpAnyH_take (i := 7) (oi := _) (v := _) ?hi7n111 (by kernel_rfl) (by kernel_rfl) (by kernel_rfl) ?hQ7n111 ?hy7n111 (by assumption) ?rest7n111
    case hi7n111 => (simp only [List.getElem?_toArray, List.getElem?_cons_succ, List.getElem?_cons_zero]; rfl)
    case hQ7n111 => exact fun _ _ _ h => h
    case hy7n111 => exact Or.inl ⟨by rfl, by (intro w hSw; (try dsimp only at hSw); go_simp; (try with_reducible rfl))⟩
    try simp only [Act.put, List.setIfInBounds_toArray, List.set_cons_zero, List.set_cons_succ]
    have bxd : Below w2.heap.size w2 w2.drew := (Below.refl _ _).drew
    replace HD := Lib.hid (HD.out.below bxd hgl)
    generalize hxw : w2.drew = xd at hHeld HD ⊢
    clear hxw bxd q0
    refine wpAnyH_ready (rs := [6, 8]) (by kernel_rfl) (by simp) ?_
    refine AllReadyH.cons (by (simp only [List.getElem?_toArray, List.getElem?_cons_succ, List.getElem?_cons_zero]; rfl)) (fun K hK => ?_) (AllReadyH.cons (by (simp only [List.getElem?_toArray, List.getElem?_cons_succ, List.getElem?_cons_zero]; rfl)) (fun K hK => ?_) AllReadyH.nil)
    · --
      go_simp
      refine (HB.out xd HD.out.cur HD.out.grow ws.length (by unfold i64In; omega)).mono ?_
      rintro e y1 ⟨⟨t, rfl, _, ht2⟩, c1, g1⟩
      obtain ⟨t0, t1⟩ := ht2 (by omega)
      obtain ⟨t, rfl⟩ := Int.eq_ofNat_of_zero_le t0
      clear ht2 t0
      replace HD := Lib.hid (HD.out.keep g1 c1 hgl)
      clear c1 g1
      dsimp only
      have q0 := HD.out.bx4.four.1
      refine hK.out _ _ (by first | (dsimp only; exact q0) | exact q0) (fun hHeld => ?_)
      clear q0
      clear hK K
      try simp only [Act.put, List.setIfInBounds_toArray, List.set_cons_zero, List.set_cons_succ]
      have htl : (t : Int) < (ws.length : Int) := by omega
      have htl2 : ¬ (t : Int) < 0 := by omega
      refine wpAnyH_ready (rs := [8]) (by kernel_rfl) (by simp) ?_
      refine AllReadyH.cons (by (simp only [List.getElem?_toArray, List.getElem?_cons_succ, List.getElem?_cons_zero]; rfl)) (fun K hK => ?_) AllReadyH.nil
      go_simp
      generalize hy : y1.alloc _ = y2
      have ry := Rd.made hy [0, 1, 2, 3, 200, 99999, -1, 9223372036854775807] rfl (by decide)
      obtain ⟨b9, _⟩ := Bx.alloc hy
      clear hy
      have hga : g < y1.heap.size := Nat.lt_of_lt_of_le hgl HD.out.grow.size
      replace HD := Lib.hid (HD.out.below b9 hgl)
      clear b9
      have q0 := HD.out.bx4.four.1
      refine hK.out _ _ (by first | (dsimp only; exact q0) | exact q0) (fun hHeld => ?_)
      clear q0
      clear hK K
      try simp only [Act.put, List.setIfInBounds_toArray, List.set_cons_zero, List.set_cons_succ]
      refine wpAnyH_ready (rs := [9]) (by kernel_rfl) (by simp) ?_
      refine AllReadyH.cons (by (simp only [List.getElem?_toArray, List.getElem?_cons_succ, List.getElem?_cons_zero]; rfl)) (fun K hK => ?_) AllReadyH.nil
      go_simp
      have HPc := Lib.hid (HP.out y2 HD.out.cur HD.out.grow _ _ _ ry (by decide) (by decide) (fun a n c h => by cases h; dsimp only; omega))
      refine HPc.out.mono ?_
      rintro e y3 ⟨⟨y, rfl, hy⟩, c1, g1⟩
      have HY := Lib.hid (all_in (by decide) hy)
      clear hy HPc ry
      replace HD := Lib.hid (HD.out.keep g1 c1 hgl)
      clear c1 g1
      dsimp only
      have q0 := HD.out.bx4.four.1
      refine hK.out _ _ (by first | (dsimp only; exact q0) | exact q0) (fun hHeld => ?_)
      clear q0
      clear hK K
      try simp only [Act.put, List.setIfInBounds_toArray, List.set_cons_zero, List.set_cons_succ]
      refine' wpAnyH_take (i := 10) (oi := _) (v := _) ?hi10n166 (by kernel_rfl) (by kernel_rfl) (by kernel_rfl) ?hQ10n166 ?hy10n166 (by assumption) ?rest10n166
      case hi10n166 => (simp only [List.getElem?_toArray, List.getElem?_cons_succ, List.getElem?_cons_zero]; rfl)
      case hQ10n166 => exact fun _ _ _ h => h
      case hy10n166 => exact Or.inl ⟨by rfl, by (intro w hSw; (try dsimp only at hSw); go_simp; (try with_reducible rfl))⟩
      try simp only [Act.put, List.setIfInBounds_toArray, List.set_cons_zero, List.set_cons_succ]
      have cs := own_cell HD.out.d.own t (by omega)
      rw [List.getElem?_map, List.getElem?_eq_getElem (by omega), Option.map_some] at cs
      have fs := own_frozen HD.out.d.own t
      refine wpAnyH_ready (rs := [11]) (by kernel_rfl) (by simp) ?_
      refine AllReadyH.cons (by (simp only [List.getElem?_toArray, List.getElem?_cons_succ, List.getElem?_cons_zero]; rfl)) (fun K hK => ?_) AllReadyH.nil
      have D10 := Lib.hid (HD.out.setw hgl t (by omega) HY.out)
      go_simp
      generalize hww : World.setCell _ _ _ = W4 at D10 ⊢
      clear hww cs fs
      have q0 := D10.out.bx4.four.1
      refine hK.out _ _ (by first | (dsimp only; exact q0) | exact q0) (fun hHeld => ?_)
      clear q0
      clear hK K
      try simp only [Act.put, List.setIfInBounds_toArray, List.set_cons_zero, List.set_cons_succ]
      refine wpAnyH_done (by kernel_rfl) ?_ _
      clear HD
      have HD := D10
      clear D10
      have k4 := HD.out.bx4
      have k2 := HD.out.bx2
      have ck4 := k4.2.1
      have yk4 := k4.1
      have ck2 := k2.2.1
      have yk2 := k2.1
      have zk2 := k2.2.2
      have hrl2 := HD.out.len
      have hfin := HD.out.fin ((((grownBy.setCell W4 g2 0 (.slice (some ⟨gv, 0, none⟩) ws.length vcap)).trans' (grownBy.setCell _ g2 1 (.int .i64 h))).trans' (grownBy.setCell _ g2 2 (.int .i64 b))).trans' (grownBy.setCell _ g2 3 (.int .i64 n))) hgl
      go_wp2
      refine bodyPost_ret (v := .tuple #[.agg #[.slice (some ⟨gv, 0, none⟩) ws.length vcap, .int .i64 h, .int .i64 b, .int .i64 n], (.slice (some ⟨gr, 0, none⟩) rs.length rcap)]) ?_ rfl ?_
      · simp [results, Try.results32, go_sem, ck2]
      · exact ⟨_, _, _, _, _, _, _, rfl, hfin.1, by omega, hfin.2.1, hfin.2.2⟩
    · --
      go_simp
      generalize hy : xd.alloc _ = y4
      have ry := Rd.made hy [0, 1, 2, 3, 200, 99999, -1, 9223372036854775807] rfl (by decide)
      obtain ⟨b9, _⟩ := Bx.alloc hy
      clear hy
      have hga : g < xd.heap.size := Nat.lt_of_lt_of_le hgl HD.out.grow.size
      replace HD := Lib.hid (HD.out.below b9 hgl)
      clear b9
      have q0 := HD.out.bx4.four.1
      refine hK.out _ _ (by first | (dsimp only; exact q0) | exact q0) (fun hHeld => ?_)
      clear q0
      clear hK K
      try simp only [Act.put, List.setIfInBounds_toArray, List.set_cons_zero, List.set_cons_succ]
      refine wpAnyH_ready (rs := [6]) (by kernel_rfl) (by simp) ?_
      refine AllReadyH.cons (by (simp only [List.getElem?_toArray, List.getElem?_cons_succ, List.getElem?_cons_zero]; rfl)) (fun K hK => ?_) AllReadyH.nil
      go_simp
      refine (HB.out y4 HD.out.cur HD.out.grow ws.length (by unfold i64In; omega)).mono ?_
      rintro e y5 ⟨⟨t, rfl, _, ht2⟩, c1, g1⟩
      obtain ⟨t0, t1⟩ := ht2 (by omega)
      obtain ⟨t, rfl⟩ := Int.eq_ofNat_of_zero_le t0
      clear ht2 t0
      replace ry := ry.grown_ne g1 (fun a n c h => by cases h; dsimp only; omega)
      replace HD := Lib.hid (HD.out.keep g1 c1 hgl)
      clear c1 g1
      dsimp only
      have q0 := HD.out.bx4.four.1
      refine hK.out _ _ (by first | (dsimp only; exact q0) | exact q0) (fun hHeld => ?_)
      clear q0
      clear hK K
      try simp only [Act.put, List.setIfInBounds_toArray, List.set_cons_zero, List.set_cons_succ]
      have htl : (t : Int) < (ws.length : Int) := by omega
      have htl2 : ¬ (t : Int) < 0 := by omega
      refine wpAnyH_ready (rs := [9]) (by kernel_rfl) (by simp) ?_
      refine AllReadyH.cons (by (simp only [List.getElem?_toArray, List.getElem?_cons_succ, List.getElem?_cons_zero]; rfl)) (fun K hK => ?_) AllReadyH.nil
      go_simp
      have HPc := Lib.hid (HP.out y5 HD.out.cur HD.out.grow _ _ _ ry (by decide) (by decide) (fun a n c h => by cases h; dsimp only; omega))
      refine HPc.out.mono ?_
      rintro e y6 ⟨⟨y, rfl, hy⟩, c1, g1⟩
      have HY := Lib.hid (all_in (by decide) hy)
      clear hy HPc ry
      replace HD := Lib.hid (HD.out.keep g1 c1 hgl)
      clear c1 g1
      dsimp only
      have q0 := HD.out.bx4.four.1
      refine hK.out _ _ (by first | (dsimp only; exact q0) | exact q0) (fun hHeld => ?_)
      clear q0
      clear hK K
      try simp only [Act.put, List.setIfInBounds_toArray, List.set_cons_zero, List.set_cons_succ]
      refine' wpAnyH_take (i := 10) (oi := _) (v := _) ?hi10n244 (by kernel_rfl) (by kernel_rfl) (by kernel_rfl) ?hQ10n244 ?hy10n244 (by assumption) ?rest10n244
      case hi10n244 => (simp only [List.getElem?_toArray, List.getElem?_cons_succ, List.getElem?_cons_zero]; rfl)
      case hQ10n244 => exact fun _ _ _ h => h
      case hy10n244 => exact Or.inl ⟨by rfl, by (intro w hSw; (try dsimp only at hSw); go_simp; (try with_reducible rfl))⟩
      try simp only [Act.put, List.setIfInBounds_toArray, List.set_cons_zero, List.set_cons_succ]
      have cs := own_cell HD.out.d.own t (by omega)
      rw [List.getElem?_map, List.getElem?_eq_getElem (by omega), Option.map_some] at cs
      have fs := own_frozen HD.out.d.own t
      refine wpAnyH_ready (rs := [11]) (by kernel_rfl) (by simp) ?_
      refine AllReadyH.cons (by (simp only [List.getElem?_toArray, List.getElem?_cons_succ, List.getElem?_cons_zero]; rfl)) (fun K hK => ?_) AllReadyH.nil
      have D10 := Lib.hid (HD.out.setw hgl t (by omega) HY.out)
      go_simp
      generalize hww : World.setCell _ _ _ = W4 at D10 ⊢
      clear hww cs fs
      have q0 := D10.out.bx4.four.1
      refine hK.out _ _ (by first | (dsimp only; exact q0) | exact q0) (fun hHeld => ?_)
      clear q0
      clear hK K
      try simp only [Act.put, List.setIfInBounds_toArray, List.set_cons_zero, List.set_cons_succ]
      refine wpAnyH_done (by kernel_rfl) ?_ _
      clear HD
      have HD := D10
      clear D10
      have k4 := HD.out.bx4
      have k2 := HD.out.bx2
      have ck4 := k4.2.1
      have yk4 := k4.1
      have ck2 := k2.2.1
      have yk2 := k2.1
      have zk2 := k2.2.2
      have hrl2 := HD.out.len
      have hfin := HD.out.fin ((((grownBy.setCell W4 g2 0 (.slice (some ⟨gv, 0, none⟩) ws.length vcap)).trans' (grownBy.setCell _ g2 1 (.int .i64 h))).trans' (grownBy.setCell _ g2 2 (.int .i64 b))).trans' (grownBy.setCell _ g2 3 (.int .i64 n))) hgl
      go_wp2
      refine bodyPost_ret (v := .tuple #[.agg #[.slice (some ⟨gv, 0, none⟩) ws.length vcap, .int .i64 h, .int .i64 b, .int .i64 n], (.slice (some ⟨gr, 0, none⟩) rs.length rcap)]) ?_ rfl ?_
      · simp [results, Try.results32, go_sem, ck2]
      · exact ⟨_, _, _, _, _, _, _, rfl, hfin.1, by omega, hfin.2.1, hfin.2.2⟩
  · have hga : g < w2.heap.size := Nat.lt_of_lt_of_le hgl HD.out.grow.size
    go_wp2_with fail
    generalize hx : w2.alloc _ = x2
    have ry := Rd.made hx [-1, 0, 1, 3, 60, 121] rfl (by decide)
    obtain ⟨bx, _⟩ := Bx.alloc hx
    clear hx
    replace HD := Lib.hid (HD.out.below bx hgl)
    clear bx
    have HPc := Lib.hid (HP.out x2 HD.out.cur HD.out.grow _ _ _ ry (by decide) (by decide) (fun a n c h => by cases h; dsimp only; omega))
    refine HPc.out.mono ?_
    rintro e w3 ⟨⟨y, rfl, hy⟩, c1, g1⟩
    have HY := Lib.hid (all_in (by decide) hy)
    replace HD := Lib.hid (HD.out.keep g1 c1 hgl)
    clear hy HPc ry c1 g1
    have k4 := HD.out.bx4
    have ck4 := k4.2.1
    have yk4 := k4.1
    have zk4 := k4.2.2
    have D4 := Lib.hid (HD.out.heap (grownBy.setCell w3 g4 3 (.int .i64 y)) hgl (k4.set 3 (by simp) (.int .i64 y)) HD.out.d.own (by have H := HD.out.d.hin; exact ⟨H.ok, H.pos, H.le, H.h, H.b, HY.out⟩) (fun i hi => ⟨(HD.out.far i (.inl hi)).1, (HD.out.far i (.inl hi)).2, fun hh => HD.out.d.diff i hi hh⟩))
    go_upto_region 13 with fail
    generalize hww : World.setCell _ _ _ = W4 at D4 ⊢
    clear hww HD ck4 yk4 zk4 k4
    have HD := D4
    clear D4
    have k4 := HD.out.bx4
    have k2 := HD.out.bx2
    have ck4 := k4.2.1
    have yk4 := k4.1
    have ck2 := k2.2.1
    have yk2 := k2.1
    have zk2 := k2.2.2
    have hrl2 := HD.out.len
    have hfin := HD.out.fin ((((grownBy.setCell W4 g2 0 (.slice (some ⟨gv, 0, none⟩) ws.length vcap)).trans' (grownBy.setCell _ g2 1 (.int .i64 h))).trans' (grownBy.setCell _ g2 2 (.int .i64 b))).trans' (grownBy.setCell _ g2 3 (.int .i64 y))) hgl
    go_wp2
    refine bodyPost_ret (v := .tuple #[.agg #[.slice (some ⟨gv, 0, none⟩) ws.length vcap, .int .i64 h, .int .i64 b, .int .i64 y], (.slice (some ⟨gr, 0, none⟩) rs.length rcap)]) ?_ rfl ?_
    · simp [results, Try.results32, go_sem, ck2]
    · exact ⟨_, _, _, _, _, _, _, rfl, hfin.1, by omega, hfin.2.1, hfin.2.2⟩
  · have hga : g < w2.heap.size := Nat.lt_of_lt_of_le hgl HD.out.grow.size
    go_wp2_with fail
    generalize hx : w2.alloc _ = x2
    have ry := Rd.made hx [0, 1, 6, 20] rfl (by decide)
    obtain ⟨bx, _⟩ := Bx.alloc hx
    clear hx
    replace HD := Lib.hid (HD.out.below bx hgl)
    clear bx
    have HPc := Lib.hid (HP.out x2 HD.out.cur HD.out.grow _ _ _ ry (by decide) (by decide) (fun a n c h => by cases h; dsimp only; omega))
    refine HPc.out.mono ?_
    rintro e w3 ⟨⟨y, rfl, hy⟩, c1, g1⟩
    have HY := Lib.hid (all_in (by decide) hy)
    replace HD := Lib.hid (HD.out.keep g1 c1 hgl)
    clear hy HPc ry c1 g1
    have k4 := HD.out.bx4
    have ck4 := k4.2.1
    have yk4 := k4.1
    have zk4 := k4.2.2
    have D4 := Lib.hid (HD.out.heap (grownBy.setCell w3 g4 2 (.int .i64 y)) hgl (k4.set 2 (by simp) (.int .i64 y)) HD.out.d.own (by have H := HD.out.d.hin; exact ⟨H.ok, H.pos, H.le, H.h, HY.out, H.n⟩) (fun i hi => ⟨(HD.out.far i (.inl hi)).1, (HD.out.far i (.inl hi)).2, fun hh => HD.out.d.diff i hi hh⟩))
    go_upto_region 13 with fail
    generalize hww : World.setCell _ _ _ = W4 at D4 ⊢
    clear hww HD ck4 yk4 zk4 k4
    have HD := D4
    clear D4
    have k4 := HD.out.bx4
    have k2 := HD.out.bx2
    have ck4 := k4.2.1
    have yk4 := k4.1
    have ck2 := k2.2.1
    have yk2 := k2.1
    have zk2 := k2.2.2
    have hrl2 := HD.out.len
    have hfin := HD.out.fin ((((grownBy.setCell W4 g2 0 (.slice (some ⟨gv, 0, none⟩) ws.length vcap)).trans' (grownBy.setCell _ g2 1 (.int .i64 h))).trans' (grownBy.setCell _ g2 2 (.int .i64 y))).trans' (grownBy.setCell _ g2 3 (.int .i64 n))) hgl
    go_wp2
    refine bodyPost_ret (v := .tuple #[.agg #[.slice (some ⟨gv, 0, none⟩) ws.length vcap, .int .i64 h, .int .i64 y, .int .i64 n], (.slice (some ⟨gr, 0, none⟩) rs.length rcap)]) ?_ rfl ?_
    · simp [results, Try.results32, go_sem, ck2]
    · exact ⟨_, _, _, _, _, _, _, rfl, hfin.1, by omega, hfin.2.1, hfin.2.2⟩
  · have hga : g < w2.heap.size := Nat.lt_of_lt_of_le hgl HD.out.grow.size
    go_wp2_with fail
    generalize hx : w2.alloc _ = x2
    have ry := Rd.made hx [0, 6, 3001] rfl (by decide)
    obtain ⟨bx, _⟩ := Bx.alloc hx
    clear hx
    replace HD := Lib.hid (HD.out.below bx hgl)
    clear bx
    have HPc := Lib.hid (HP.out x2 HD.out.cur HD.out.grow _ _ _ ry (by decide) (by decide) (fun a n c h => by cases h; dsimp only; omega))
    refine HPc.out.mono ?_
    rintro e w3 ⟨⟨y, rfl, hy⟩, c1, g1⟩
    have HY := Lib.hid (all_in (by decide) hy)
    replace HD := Lib.hid (HD.out.keep g1 c1 hgl)
    clear hy HPc ry c1 g1
    have k4 := HD.out.bx4
    have ck4 := k4.2.1
    have yk4 := k4.1
    have zk4 := k4.2.2
    have D4 := Lib.hid (HD.out.heap (grownBy.setCell w3 g4 1 (.int .i64 y)) hgl (k4.set 1 (by simp) (.int .i64 y)) HD.out.d.own (by have H := HD.out.d.hin; exact ⟨H.ok, H.pos, H.le, HY.out, H.b, H.n⟩) (fun i hi => ⟨(HD.out.far i (.inl hi)).1, (HD.out.far i (.inl hi)).2, fun hh => HD.out.d.diff i hi hh⟩))
    go_upto_region 13 with fail
    generalize hww : World.setCell _ _ _ = W4 at D4 ⊢
    clear hww HD ck4 yk4 zk4 k4
    have HD := D4
    clear D4
    have k4 := HD.out.bx4
    have k2 := HD.out.bx2
    have ck4 := k4.2.1
    have yk4 := k4.1
    have ck2 := k2.2.1
    have yk2 := k2.1
    have zk2 := k2.2.2
    have hrl2 := HD.out.len
    have hfin := HD.out.fin ((((grownBy.setCell W4 g2 0 (.slice (some ⟨gv, 0, none⟩) ws.length vcap)).trans' (grownBy.setCell _ g2 1 (.int .i64 y))).trans' (grownBy.setCell _ g2 2 (.int .i64 b))).trans' (grownBy.setCell _ g2 3 (.int .i64 n))) hgl
    go_wp2
    refine bodyPost_ret (v := .tuple #[.agg #[.slice (some ⟨gv, 0, none⟩) ws.length vcap, .int .i64 y, .int .i64 b, .int .i64 n], (.slice (some ⟨gr, 0, none⟩) rs.length rcap)]) ?_ rfl ?_
    · simp [results, Try.results32, go_sem, ck2]
    · exact ⟨_, _, _, _, _, _, _, rfl, hfin.1, by omega, hfin.2.1, hfin.2.2⟩
  · have hga : g < w2.heap.size := Nat.lt_of_lt_of_le hgl HD.out.grow.size
    go_wp2_with fail
    generalize hx : w2.alloc _ = x2
    have ry := Rd.made hx [0, 2, 4, 98, -2] rfl (by decide)
    obtain ⟨bx, _⟩ := Bx.alloc hx
    clear hx
    replace HD := Lib.hid (HD.out.below bx hgl)
    clear bx
    have HPc := Lib.hid (HP.out x2 HD.out.cur HD.out.grow _ _ _ ry (by decide) (by decide) (fun a n c h => by cases h; dsimp only; omega))
    refine HPc.out.mono ?_
    rintro e w3 ⟨⟨y, rfl, hy⟩, c1, g1⟩
    have HY := Lib.hid (all_in (by decide) hy)
    replace HD := Lib.hid (HD.out.keep g1 c1 hgl)
    clear hy HPc ry c1 g1
    have hrl3 := HD.out.len
    have zw3 := HD.out.grow.size
    go_wp2_with (at_builtin; refine wpList_app1_at rfl _ _ 24 rfl w.heap.size 3 i0 (.int .i64 0) 1 8 Try.underlying24 hi hz0 hz1 hz2 rfl (by decide) _ _ _ rfl HD.out.d.rown #[_] rfl ?_ w3.heap.size rfl rfl ?_ ?_ ?_ ?_)
    · rfl
    · unfold maxLen; omega
    · omega
    · omega
    · intro v' w5 ho hg5 hat
      replace HD := Lib.hid (HD.out.roots hg5 hgl (y := y) (by simpa using ho) hat HY.out)
      clear ho hg5 hat HY
      have k4 := HD.out.bx4
      have k2 := HD.out.bx2
      have ck4 := k4.2.1
      have yk4 := k4.1
      have ck2 := k2.2.1
      have yk2 := k2.1
      have zk2 := k2.2.2
      have hrl2 := HD.out.len
      have hfin := HD.out.fin ((((grownBy.setCell w5 g2 0 (.slice (some ⟨gv, 0, none⟩) ws.length vcap)).trans' (grownBy.setCell _ g2 1 (.int .i64 h))).trans' (grownBy.setCell _ g2 2 (.int .i64 b))).trans' (grownBy.setCell _ g2 3 (.int .i64 n))) hgl
      go_wp2
      refine bodyPost_ret (v := .tuple #[.agg #[.slice (some ⟨gv, 0, none⟩) ws.length vcap, .int .i64 h, .int .i64 b, .int .i64 n], v']) ?_ rfl ?_
      · simp [results, Try.results32, go_sem, ck2]
      · exact ⟨_, _, _, _, _, _, _, rfl, hfin.1, by omega, hfin.2.1, hfin.2.2⟩
  · obtain ⟨r0, r1, r2, r3, r4⟩ := hr4
    go_upto_region 13 with fail
    have k4 := HD.out.bx4
    have k2 := HD.out.bx2
    have ck4 := k4.2.1
    have yk4 := k4.1
    have ck2 := k2.2.1
    have yk2 := k2.1
    have zk2 := k2.2.2
    have hrl2 := HD.out.len
    have hfin := HD.out.fin ((((grownBy.setCell w2 g2 0 (.slice (some ⟨gv, 0, none⟩) ws.length vcap)).trans' (grownBy.setCell _ g2 1 (.int .i64 h))).trans' (grownBy.setCell _ g2 2 (.int .i64 b))).trans' (grownBy.setCell _ g2 3 (.int .i64 n))) hgl
    go_wp2
    refine bodyPost_ret (v := .tuple #[.agg #[.slice (some ⟨gv, 0, none⟩) ws.length vcap, .int .i64 h, .int .i64 b, .int .i64 n], (.slice (some ⟨gr, 0, none⟩) rs.length rcap)]) ?_ rfl ?_
    · simp [results, Try.results32, go_sem, ck2]
    · exact ⟨_, _, _, _, _, _, _, rfl, hfin.1, by omega, hfin.2.1, hfin.2.2⟩

end Go.Proofs.Ytmcoidnonmmpjaa

/- What a law draws: heaps, words, places. -/
namespace Go.Proofs.Ytmcoidnonmmpjaa
open Go.RowKit
set_option linter.unusedVariables false
set_option linter.unusedSimpArgs false

theorem setFour (w : World) (g : Nat) (a b c d : Value) : w.grownBy ((((w.setCell ⟨g, 0, none⟩ a).setCell ⟨g, 1, none⟩ b).setCell ⟨g, 2, none⟩ c).setCell ⟨g, 3, none⟩ d) (some g) :=
  (((grownBy.setCell w g 0 a).trans' (grownBy.setCell _ g 1 b)).trans' (grownBy.setCell _ g 2 c)).trans' (grownBy.setCell _ g 3 d)
theorem below_four {B : Nat} {w0 w : World} (h : Below B w0 w) (g : Nat) (hg : B ≤ g) (a b c d : Value) : Below B w0 ((((w.setCell ⟨g, 0, none⟩ a).setCell ⟨g, 1, none⟩ b).setCell ⟨g, 2, none⟩ c).setCell ⟨g, 3, none⟩ d) :=
  (((h.setCell (p := ⟨g, 0, none⟩) hg a).setCell (p := ⟨g, 1, none⟩) hg b).setCell (p := ⟨g, 2, none⟩) hg c).setCell (p := ⟨g, 3, none⟩) hg d
/-- a drawn heap in a row of one's own; a drawn list of words. -/
def HOwn (W w' : World) (v : Value) (ws : List Int) (h b n : Int) : Prop := w'.ownsRow W.heap.size 3 1 v ws.length (ws.map (Value.int .i64)) ∧ HeapIn ws h b n
def ROwn (W w' : World) (v : Value) (rs : List Int) : Prop := w'.ownsRow W.heap.size 3 1 v rs.length (rs.map (Value.int .i64)) ∧ intsOk rs ∧ rs.length ≤ 300
def HeapDrawn (W : World) (e : Ending) (w' : World) : Prop := ∃ v ws h b n, e = .returned (.agg #[v, .int .i64 h, .int .i64 b, .int .i64 n]) ∧ HOwn W w' v ws h b n
def RootsDrawn (W : World) (e : Ending) (w' : World) : Prop := ∃ v ws h b n vr rs, e = .returned (.tuple #[.agg #[v, .int .i64 h, .int .i64 b, .int .i64 n], vr]) ∧ HOwn W w' v ws h b n ∧ ROwn W w' vr rs
def PlaceDrawn (W : World) (e : Ending) (w' : World) : Prop := ∃ v ws h b n p, e = .returned (.tuple #[.agg #[v, .int .i64 h, .int .i64 b, .int .i64 n], .int .i64 p]) ∧ HOwn W w' v ws h b n ∧ i64In p
def AllocDrawn (W : World) (e : Ending) (w' : World) : Prop := ∃ v ws h b n f t vk ks, e = .returned (.tuple #[.agg #[v, .int .i64 h, .int .i64 b, .int .i64 n], .bool f, .int .i64 t, vk]) ∧ HOwn W w' v ws h b n ∧ ROwn W w' vk ks ∧ i64In t
theorem HOwn.keep {W w w' : World} {v : Value} {ws : List Int} {h b n : Int} (H : HOwn W w v ws h b n) {r : Option Nat} (hg : w.grownBy w' r) (hr : v.ownBlock = none ∨ v.ownBlock ≠ r) : HOwn W w' v ws h b n := ⟨H.1.kept hg hr, H.2⟩
theorem ROwn.keep {W w w' : World} {v : Value} {rs : List Int} (H : ROwn W w v rs) {r : Option Nat} (hg : w.grownBy w' r) (hr : v.ownBlock = none ∨ v.ownBlock ≠ r) : ROwn W w' v rs := ⟨H.1.kept hg hr, H.2⟩
theorem HOwn.base {W W1 w : World} {v : Value} {ws : List Int} {h b n : Int} (H : HOwn W1 w v ws h b n) (hb : W.heap.size ≤ W1.heap.size) : HOwn W w v ws h b n := ⟨own_base H.1 hb, H.2⟩
theorem ROwn.base {W W1 w : World} {v : Value} {rs : List Int} (H : ROwn W1 w v rs) (hb : W.heap.size ≤ W1.heap.size) : ROwn W w v rs := ⟨own_base H.1 hb, H.2⟩
theorem ROwn.below {W w w' : World} {v : Value} {rs : List Int} (H : ROwn W w v rs) (hb : Below w.heap.size w w') : ROwn W w' v rs := ⟨own_below H.1 hb (own_lt H.1), H.2⟩
theorem HOwn.below {W w w' : World} {v : Value} {ws : List Int} {h b n : Int} (H : HOwn W w v ws h b n) (hb : Below w.heap.size w w') : HOwn W w' v ws h b n := ⟨own_below H.1 hb (own_lt H.1), H.2⟩

set_option maxHeartbeats 3200000 in
set_option maxRecDepth 100000 in
theorem DrawHeapOk_any {B : Nat} (cv : Value) (zs : List Int) (w : World) (hr : Rd B .u8 w cv zs) (hz : bytesIn zs) (hl : zs.length ≤ 4294967296) :
    Calls Try.prog 55 #[cv] w fun e w' => HeapDrawn w e w' ∧ Below w.heap.size w w' := by
  obtain ⟨i0, hi, hz0, hz1, hz2⟩ := info_parts Try.infoI2
  have HN := Lib.hid (fun (W : World) (hb : Below w.heap.size w W) => l1New_any cv zs W (hr.below' hb) hz hl)
  have HB := Lib.hid (fun (w1 W : World) (g : Nat) (hb : Below w.heap.size w w1) (hg : w.heap.size ≤ g) (hC : Cur W g cv zs.length) (hw : w1.grownBy W (some g)) (n : Int) (hn : i64In n) => l1Below_any cv zs n W hC ((hr.below' hb).grown_row hw hg) hz hl hg hn)
  have HO := Lib.hid (fun (w1 W : World) (g : Nat) (hb : Below w.heap.size w w1) (hg : w.heap.size ≤ g) (hC : Cur W g cv zs.length) (hw : w1.grownBy W (some g)) (n : Int) (hn : i64In n) => l1Once_any cv zs n W hC ((hr.below' hb).grown_row hw hg) hz hl hg hn)
  have HP := Lib.hid (fun (w1 W : World) (g : Nat) (hb : Below w.heap.size w w1) (hg : w.heap.size ≤ g) (hC : Cur W g cv zs.length) (hw : w1.grownBy W (some g)) (B2 : Nat) (u : Value) (ys : List Int) (hy : Rd B2 .i64 W u ys) (h0 : 0 < ys.length) (h1 : ys.length ≤ 4294967296) (hne : ∀ a n c, u = .slice (some a) n c → a.block ≠ g) => l1PickInt_any cv u zs ys W hC ((hr.below' hb).grown_row hw hg) hz hl hg hy h0 h1 hne)
  have HD := Lib.hid (fun (w1 : World) (g : Nat) (hb : Below w.heap.size w w1) (hg : w.heap.size ≤ g) (hC : Cur w1 g cv zs.length) => l17Draw_any cv zs w1 hC (hr.below' hb) hz hl hg)
  obtain ⟨ca, cc, rfl⟩ := hr.form
  clear hr hz
  go_enter Try.func55, Try.ntmps55
  go_wp2_with fail
  generalize hx : w.alloc _ = x
  obtain ⟨bb, k2⟩ := Bx.alloc hx
  have hxs : x.heap.size = w.heap.size + 1 := by rw [← hx]; simp
  clear hx
  refine (HN.out x bb).mono ?_
  rintro e w1 ⟨⟨g, rfl, hg, c1⟩, b1⟩
  replace k2 := k2.below b1 k2.1
  replace bb := bb.trans (b1.mono bb.size)
  have zb1 := b1.size
  clear b1
  have hg' : w.heap.size ≤ g := by omega
  have hgl := c1.lt
  go_wp2_with fail
  refine (HD.out w1 g bb hg' c1).mono ?_
  rintro e w2 ⟨v, ws, h, b, n, vr, rs, rfl, D, hrl, gg, c2⟩
  have k3 := k2.grown gg (fun e => by have := Option.some.inj e; omega)
  have bb2 := bb.trans (Below.of_grown (B := w.heap.size) gg bb.size (fun k hk => by cases hk; exact hg'))
  have zg := gg.size
  obtain ⟨va, vc, rfl⟩ := own_form D.own
  obtain ⟨ra, rc, rfl⟩ := own_form D.rown
  have HO2 : HOwn w1 w2 (.slice va ws.length vc) ws h b n := ⟨D.own, D.hin⟩
  have RO2 : ROwn w1 w2 (.slice ra rs.length rc) rs := ⟨D.rown, D.rin, hrl⟩
  have hpos := D.pos
  replace HO2 := Lib.hid HO2
  replace RO2 := Lib.hid RO2
  replace k3 := Lib.hid k3
  have BB := Lib.hid bb
  have BB2 := Lib.hid bb2
  have C2 := Lib.hid c2
  have GG := Lib.hid gg
  clear D k2 bb bb2 c1 c2 gg
  go_upto_region 2 with fail
  generalize hx : w2.alloc _ = x3
  obtain ⟨b3, k4⟩ := Bx.alloc hx
  have hx3 : x3.heap.size = w2.heap.size + 1 := by rw [← hx]; simp
  clear hx
  replace k3 := Lib.hid (k3.out.below b3 k3.out.1)
  replace HO2 := Lib.hid (HO2.out.below b3)
  replace RO2 := Lib.hid (RO2.out.below b3)
  replace BB2 := Lib.hid (BB2.out.trans (b3.mono BB2.out.size))
  have k2 := k3.out
  have ck2 := k2.2.1
  have yk2 := k2.1
  have zk2 := k2.2.2
  have ck4 := k4.2.1
  have yk4 := k4.1
  have hk2 := k3.out.1
  have gf := setFour x3 w.heap.size (.slice va ws.length vc) (.int .i64 h) (.int .i64 b) (.int .i64 n)
  have HF := Lib.hid (HO2.out.keep gf (own_far HO2.out.1 (by omega)))
  have BF := Lib.hid (below_four BB2.out w.heap.size (Nat.le_refl _) (.slice va ws.length vc) (.int .i64 h) (.int .i64 b) (.int .i64 n))
  clear gf
  go_wp2
  refine bodyPost_ret (v := .agg #[.slice va ws.length vc, .int .i64 h, .int .i64 b, .int .i64 n]) ?_ rfl ⟨⟨_, _, _, _, _, rfl, HF.out.base (by omega)⟩, BF.out⟩
  simp [results, Try.results55, go_sem, ck2]

set_option maxHeartbeats 3200000 in
set_option maxRecDepth 100000 in
theorem DrawReach_any {B : Nat} (cv : Value) (zs : List Int) (w : World) (hr : Rd B .u8 w cv zs) (hz : bytesIn zs) (hl : zs.length ≤ 4294967296) :
    Calls Try.prog 25 #[cv] w fun e w' => RootsDrawn w e w' ∧ Below w.heap.size w w' := by
  obtain ⟨i0, hi, hz0, hz1, hz2⟩ := info_parts Try.infoI2
  have HN := Lib.hid (fun (W : World) (hb : Below w.heap.size w W) => l1New_any cv zs W (hr.below' hb) hz hl)
  have HB := Lib.hid (fun (w1 W : World) (g : Nat) (hb : Below w.heap.size w w1) (hg : w.heap.size ≤ g) (hC : Cur W g cv zs.length) (hw : w1.grownBy W (some g)) (n : Int) (hn : i64In n) => l1Below_any cv zs n W hC ((hr.below' hb).grown_row hw hg) hz hl hg hn)
  have HO := Lib.hid (fun (w1 W : World) (g : Nat) (hb : Below w.heap.size w w1) (hg : w.heap.size ≤ g) (hC : Cur W g cv zs.length) (hw : w1.grownBy W (some g)) (n : Int) (hn : i64In n) => l1Once_any cv zs n W hC ((hr.below' hb).grown_row hw hg) hz hl hg hn)
  have HP := Lib.hid (fun (w1 W : World) (g : Nat) (hb : Below w.heap.size w w1) (hg : w.heap.size ≤ g) (hC : Cur W g cv zs.length) (hw : w1.grownBy W (some g)) (B2 : Nat) (u : Value) (ys : List Int) (hy : Rd B2 .i64 W u ys) (h0 : 0 < ys.length) (h1 : ys.length ≤ 4294967296) (hne : ∀ a n c, u = .slice (some a) n c → a.block ≠ g) => l1PickInt_any cv u zs ys W hC ((hr.below' hb).grown_row hw hg) hz hl hg hy h0 h1 hne)
  have HD := Lib.hid (fun (w1 : World) (g : Nat) (hb : Below w.heap.size w w1) (hg : w.heap.size ≤ g) (hC : Cur w1 g cv zs.length) => l17Draw_any cv zs w1 hC (hr.below' hb) hz hl hg)
  obtain ⟨ca, cc, rfl⟩ := hr.form
  clear hr hz
  go_enter Try.func25, Try.ntmps25
  go_wp2_with fail
  generalize hx : w.alloc _ = x
  obtain ⟨bb, k2⟩ := Bx.alloc hx
  have hxs : x.heap.size = w.heap.size + 1 := by rw [← hx]; simp
  clear hx
  refine (HN.out x bb).mono ?_
  rintro e w1 ⟨⟨g, rfl, hg, c1⟩, b1⟩
  replace k2 := k2.below b1 k2.1
  replace bb := bb.trans (b1.mono bb.size)
  have zb1 := b1.size
  clear b1
  have hg' : w.heap.size ≤ g := by omega
  have hgl := c1.lt
  go_wp2_with fail
  refine (HD.out w1 g bb hg' c1).mono ?_
  rintro e w2 ⟨v, ws, h, b, n, vr, rs, rfl, D, hrl, gg, c2⟩
  have k3 := k2.grown gg (fun e => by have := Option.some.inj e; omega)
  have bb2 := bb.trans (Below.of_grown (B := w.heap.size) gg bb.size (fun k hk => by cases hk; exact hg'))
  have zg := gg.size
  obtain ⟨va, vc, rfl⟩ := own_form D.own
  obtain ⟨ra, rc, rfl⟩ := own_form D.rown
  have HO2 : HOwn w1 w2 (.slice va ws.length vc) ws h b n := ⟨D.own, D.hin⟩
  have RO2 : ROwn w1 w2 (.slice ra rs.length rc) rs := ⟨D.rown, D.rin, hrl⟩
  have hpos := D.pos
  replace HO2 := Lib.hid HO2
  replace RO2 := Lib.hid RO2
  replace k3 := Lib.hid k3
  have BB := Lib.hid bb
  have BB2 := Lib.hid bb2
  have C2 := Lib.hid c2
  have GG := Lib.hid gg
  clear D k2 bb bb2 c1 c2 gg
  go_upto_region 2 with fail
  generalize hx : w2.alloc _ = x3
  obtain ⟨b3, k4⟩ := Bx.alloc hx
  have hx3 : x3.heap.size = w2.heap.size + 1 := by rw [← hx]; simp
  clear hx
  replace k3 := Lib.hid (k3.out.below b3 k3.out.1)
  replace HO2 := Lib.hid (HO2.out.below b3)
  replace RO2 := Lib.hid (RO2.out.below b3)
  replace BB2 := Lib.hid (BB2.out.trans (b3.mono BB2.out.size))
  have k2 := k3.out
  have ck2 := k2.2.1
  have yk2 := k2.1
  have zk2 := k2.2.2
  have ck4 := k4.2.1
  have yk4 := k4.1
  have hk2 := k3.out.1
  have gf := setFour x3 w.heap.size (.slice va ws.length vc) (.int .i64 h) (.int .i64 b) (.int .i64 n)
  have HF := Lib.hid (HO2.out.keep gf (own_far HO2.out.1 (by omega)))
  have RF := Lib.hid (RO2.out.keep gf (own_far RO2.out.1 (by omega)))
  have BF := Lib.hid (below_four BB2.out w.heap.size (Nat.le_refl _) (.slice va ws.length vc) (.int .i64 h) (.int .i64 b) (.int .i64 n))
  clear gf
  go_wp2
  refine bodyPost_ret (v := .tuple #[.agg #[.slice va ws.length vc, .int .i64 h, .int .i64 b, .int .i64 n], .slice ra rs.length rc]) ?_ rfl ⟨⟨_, _, _, _, _, _, _, rfl, HF.out.base (by omega), RF.out.base (by omega)⟩, BF.out⟩
  simp [results, Try.results25, go_sem, ck2]

set_option maxHeartbeats 3200000 in
set_option maxRecDepth 100000 in
theorem DrawRoom_any {B : Nat} (cv : Value) (zs : List Int) (w : World) (hr : Rd B .u8 w cv zs) (hz : bytesIn zs) (hl : zs.length ≤ 4294967296) :
    Calls Try.prog 15 #[cv] w fun e w' => HeapDrawn w e w' ∧ Below w.heap.size w w' := by
  have HN := Lib.hid (fun (W : World) (hb : Below w.heap.size w W) => DrawHeapOk_any cv zs W (hr.below' hb) hz hl)
  obtain ⟨ca, cc, rfl⟩ := hr.form
  clear hr hz
  go_enter Try.func15, Try.ntmps15
  go_wp2_with fail
  generalize hx : w.alloc _ = x
  obtain ⟨bb, k2⟩ := Bx.alloc hx
  have hxs : x.heap.size = w.heap.size + 1 := by rw [← hx]; simp
  clear hx
  refine (HN.out x bb).mono ?_
  rintro e w1 ⟨⟨v, ws, h, b, n, rfl, ho⟩, b1⟩
  obtain ⟨va, vc, rfl⟩ := own_form ho.1
  have HO2 := Lib.hid ho
  have k3 := Lib.hid (k2.below b1 k2.1)
  have BB2 := Lib.hid (bb.trans (b1.mono bb.size))
  clear ho bb b1 k2
  have k2 := k3.out
  have ck2 := k2.2.1
  have yk2 := k2.1
  have zk2 := k2.2.2
  have hk2 := k3.out.1
  have gf := setFour w1 w.heap.size (.slice va ws.length vc) (.int .i64 h) (.int .i64 b) (.int .i64 n)
  have HF := Lib.hid (HO2.out.keep gf (own_far HO2.out.1 (by omega)))
  have BF := Lib.hid (below_four BB2.out w.heap.size (Nat.le_refl _) (.slice va ws.length vc) (.int .i64 h) (.int .i64 b) (.int .i64 n))
  clear gf
  go_wp2
  refine bodyPost_ret (v := .agg #[.slice va ws.length vc, .int .i64 h, .int .i64 b, .int .i64 n]) ?_ rfl ⟨⟨_, _, _, _, _, rfl, HF.out.base (by omega)⟩, BF.out⟩
  simp [results, Try.results15, go_sem, ck2]

set_option maxHeartbeats 3200000 in
set_option maxRecDepth 100000 in
theorem DrawHeapNew_any {B : Nat} (cv : Value) (zs : List Int) (w : World) (hr : Rd B .u8 w cv zs) (hz : bytesIn zs) (hl : zs.length ≤ 4294967296) :
    Calls Try.prog 16 #[cv] w fun e w' => (∃ x, e = .returned (.int .i64 x) ∧ i64In x) ∧ Below w.heap.size w w' := by
  have HN := Lib.hid (l1New_any cv zs w hr hz hl)
  have RR := Lib.hid (fun (W : World) (hb : Below w.heap.size w W) => hr.below' hb)
  obtain ⟨a, c, rfl⟩ := hr.form
  clear hr
  go_enter Try.func16, Try.ntmps16
  go_wp2_with fail
  refine HN.out.mono ?_
  rintro e w1 ⟨⟨g, rfl, hg, c1⟩, b1⟩
  have hgw : g < w1.heap.size := c1.lt
  go_wp2_with fail
  generalize hx : w1.alloc _ = x
  have ry := Rd.made hx [0, 1, 5, 3000, 3001, -1] rfl (by decide)
  obtain ⟨bx, _⟩ := Bx.alloc hx
  have C2 : Cur x g (.slice a zs.length c) zs.length := c1.below bx
  have b2 := b1.trans (bx.mono b1.size)
  have HC := Lib.hid (l1PickInt_any (.slice a zs.length c) _ zs _ x C2 (RR.out _ b2) hz hl hg ry (by decide) (by decide) (fun a n c h => by cases h; dsimp only; omega))
  have B2 := Lib.hid b2
  have z2 := b2.size
  clear hx ry bx C2 c1 b1 b2
  refine HC.out.mono ?_
  rintro e w3 ⟨⟨y, rfl, hy⟩, c3, g3⟩
  have B3 := Lib.hid (B2.out.trans (Below.of_grown (B := w.heap.size) g3 z2 (fun k hk => by cases hk; exact hg)))
  have HY := Lib.hid (all_in (by decide) hy)
  clear hy c3 g3 HC B2
  go_wp2
  go_ret
  exact ⟨⟨y, rfl, HY.out⟩, B3.out⟩

end Go.Proofs.Ytmcoidnonmmpjaa

/- What a law draws: places, some of the words, what is to be allocated. -/
namespace Go.Proofs.Ytmcoidnonmmpjaa
open Go.RowKit
set_option linter.unusedVariables false
set_option linter.unusedSimpArgs false

set_option maxHeartbeats 3200000 in
set_option maxRecDepth 100000 in
theorem DrawCollect_any {B : Nat} (cv : Value) (zs : List Int) (w : World) (hr : Rd B .u8 w cv zs) (hz : bytesIn zs) (hl : zs.length ≤ 4294967296) :
    Calls Try.prog 22 #[cv] w fun e w' => RootsDrawn w e w' ∧ Below w.heap.size w w' := by
  obtain ⟨i0, hi, hz0, hz1, hz2⟩ := info_parts Try.infoI2
  have HN := Lib.hid (fun (W : World) (hb : Below w.heap.size w W) => l1New_any cv zs W (hr.below' hb) hz hl)
  have HB := Lib.hid (fun (w1 W : World) (g : Nat) (hb : Below w.heap.size w w1) (hg : w.heap.size ≤ g) (hC : Cur W g cv zs.length) (hw : w1.grownBy W (some g)) (n : Int) (hn : i64In n) => l1Below_any cv zs n W hC ((hr.below' hb).grown_row hw hg) hz hl hg hn)
  have HO := Lib.hid (fun (w1 W : World) (g : Nat) (hb : Below w.heap.size w w1) (hg : w.heap.size ≤ g) (hC : Cur W g cv zs.length) (hw : w1.grownBy W (some g)) (n : Int) (hn : i64In n) => l1Once_any cv zs n W hC ((hr.below' hb).grown_row hw hg) hz hl hg hn)
  have HP := Lib.hid (fun (w1 W : World) (g : Nat) (hb : Below w.heap.size w w1) (hg : w.heap.size ≤ g) (hC : Cur W g cv zs.length) (hw : w1.grownBy W (some g)) (B2 : Nat) (u : Value) (ys : List Int) (hy : Rd B2 .i64 W u ys) (h0 : 0 < ys.length) (h1 : ys.length ≤ 4294967296) (hne : ∀ a n c, u = .slice (some a) n c → a.block ≠ g) => l1PickInt_any cv u zs ys W hC ((hr.below' hb).grown_row hw hg) hz hl hg hy h0 h1 hne)
  have HD := Lib.hid (fun (w1 : World) (g : Nat) (hb : Below w.heap.size w w1) (hg : w.heap.size ≤ g) (hC : Cur w1 g cv zs.length) => l17Draw_any cv zs w1 hC (hr.below' hb) hz hl hg)
  obtain ⟨ca, cc, rfl⟩ := hr.form
  clear hr hz
  go_enter Try.func22, Try.ntmps22
  go_wp2_with fail
  generalize hx : w.alloc _ = x
  obtain ⟨bb, k2⟩ := Bx.alloc hx
  have hxs : x.heap.size = w.heap.size + 1 := by rw [← hx]; simp
  clear hx
  refine (HN.out x bb).mono ?_
  rintro e w1 ⟨⟨g, rfl, hg, c1⟩, b1⟩
  replace k2 := k2.below b1 k2.1
  replace bb := bb.trans (b1.mono bb.size)
  have zb1 := b1.size
  clear b1
  have hg' : w.heap.size ≤ g := by omega
  have hgl := c1.lt
  go_wp2_with fail
  refine (HD.out w1 g bb hg' c1).mono ?_
  rintro e w2 ⟨v, ws, h, b, n, vr, rs, rfl, D, hrl, gg, c2⟩
  have k3 := k2.grown gg (fun e => by have := Option.some.inj e; omega)
  have bb2 := bb.trans (Below.of_grown (B := w.heap.size) gg bb.size (fun k hk => by cases hk; exact hg'))
  have zg := gg.size
  obtain ⟨va, vc, rfl⟩ := own_form D.own
  obtain ⟨ra, rc, rfl⟩ := own_form D.rown
  have HO2 : HOwn w1 w2 (.slice va ws.length vc) ws h b n := ⟨D.own, D.hin⟩
  have RO2 : ROwn w1 w2 (.slice ra rs.length rc) rs := ⟨D.rown, D.rin, hrl⟩
  have hpos := D.pos
  replace HO2 := Lib.hid HO2
  replace RO2 := Lib.hid RO2
  replace k3 := Lib.hid k3
  have BB := Lib.hid bb
  have BB2 := Lib.hid bb2
  have C2 := Lib.hid c2
  have GG := Lib.hid gg
  clear D k2 bb bb2 c1 c2 gg
  go_upto_region 3 with fail
  generalize hx : w2.alloc _ = x3
  obtain ⟨b3, k4⟩ := Bx.alloc hx
  have hx3 : x3.heap.size = w2.heap.size + 1 := by rw [← hx]; simp
  clear hx
  replace k3 := Lib.hid (k3.out.below b3 k3.out.1)
  replace HO2 := Lib.hid (HO2.out.below b3)
  replace RO2 := Lib.hid (RO2.out.below b3)
  replace BB2 := Lib.hid (BB2.out.trans (b3.mono BB2.out.size))
  have C3 := Lib.hid (C2.out.below b3)
  have G3 := Lib.hid (grow_step GG.out (grow_of_below b3 (some g)) (fun i hi => .inl (Option.some.inj hi).symm))
  have zx3 : w2.heap.size < x3.heap.size := by omega
  clear C2 GG b3 hx3
  have HVL := Lib.hid (own_lt HO2.out.1)
  go_wp2_with fail
  generalize hx : x3.alloc _ = x4
  have ok0 := own_empty (w := x3) (base := x3.heap.size) (e := 3) (size := 1) rfl (Nat.le_refl _)
  rw [hx] at ok0
  obtain ⟨b4, _⟩ := Bx.alloc hx
  clear hx
  have gx := grow_of_below b4 (some g)
  have cx := C3.out.below b4
  have hposr := hpos
  rcases RO2.out.1.2 with ⟨_, hv0⟩ | ⟨gr, rcap, rcur, hvr, _⟩
  · exact absurd hv0 (by omega)
  cases hvr
  have hgx3 : g < x3.heap.size := C3.out.lt
  clear b4
  go_loopw [7, 8] (fun s8 s9 wr => ∃ (j : Nat) (ks : List Int), s9 = .int .i64 j ∧ j ≤ 4 ∧ x3.grownBy wr (some g) ∧ Cur wr g (.slice ca zs.length cc) zs.length ∧ wr.ownsRow x3.heap.size 3 1 s8 ks.length (ks.map (Value.int .i64)) ∧ intsOk ks ∧ ks.length ≤ j) (fun _ i _ => 5 - (intOf i).toNat)
  case atStart => exact ⟨0, [], rfl, by omega, gx, cx, ok0, intsOk_nil, by simp⟩
  case round =>
    clear ok0 gx cx
    obtain ⟨j, ks, rfl, hj, gy, cy, oy, iy, ly⟩ := hrel
    obtain ⟨ka, kc, rfl⟩ := own_form oy
    have GY := Lib.hid gy
    have CY := Lib.hid cy
    have OY := Lib.hid oy
    have IY := Lib.hid iy
    clear gy cy oy iy
    go_wp2_with fail
    refine (HB.out w1 wr g BB.out hg' CY.out (grow_step G3.out GY.out (fun i hi => .inl (Option.some.inj hi).symm)) 4 (by unfold i64In; omega)).mono ?_
    rintro e w5 ⟨⟨q, rfl, _, hq2⟩, c5, g5⟩
    obtain ⟨q0, q1⟩ := hq2 (by omega)
    have GG := Lib.hid (grow_step GY.out g5 (fun i hi => .inl (Option.some.inj hi).symm))
    have O5 := Lib.hid (OY.out.kept g5 (own_far OY.out hgx3))
    have C5 := Lib.hid c5
    clear c5 g5 hq2 CY GY OY
    by_cases hjl : (j : Int) < q
    · go_wp2_with fail
      refine (HB.out w1 w5 g BB.out hg' C5.out (grow_step G3.out GG.out (fun i hi => .inl (Option.some.inj hi).symm)) rs.length (by have := RO2.out.2.2; unfold i64In; omega)).mono ?_
      rintro e w6 ⟨⟨t, rfl, _, ht2⟩, c6, g6⟩
      obtain ⟨t0, t1⟩ := ht2 (by omega)
      obtain ⟨t, rfl⟩ := Int.eq_ofNat_of_zero_le t0
      have gg6 := grow_step GG.out g6 (fun i hi => .inl (Option.some.inj hi).symm)
      have O6 := Lib.hid (O5.out.kept g6 (own_far O5.out hgx3))
      have htn : t < rs.length := by omega
      have ce := own_cell (RO2.out.keep gg6 (own_far RO2.out.1 hgl)).1 t htn
      rw [List.getElem?_map, List.getElem?_eq_getElem htn, Option.map_some] at ce
      have hy : i64In rs[t] := intsOk_mem RO2.out.2.1 _ (List.getElem_mem htn)
      obtain ⟨y, hye⟩ : ∃ y, rs[t] = y := ⟨_, rfl⟩
      rw [hye] at ce hy
      have HY := Lib.hid hy
      have GG6 := Lib.hid gg6
      have C6 := Lib.hid c6
      have zw6 := gg6.size
      clear hye hy gg6 c6 g6 ht2 C5 GG O5
      go_wp2_with (at_builtin; refine wpList_app1_at rfl _ _ 24 rfl x3.heap.size 3 i0 (.int .i64 0) 1 8 Try.underlying24 hi hz0 hz1 hz2 rfl (by decide) _ _ _ rfl O6.out #[_] rfl ?_ w6.heap.size rfl rfl ?_ ?_ ?_ ?_)
      · rfl
      · unfold maxLen; omega
      · omega
      · omega
      · intro v' w7 ho hg7 hat
        have GG7 := Lib.hid (grow_step GG6.out hg7 (fun i hi => .inr (O6.out.lt i hi).1))
        have C7 := Lib.hid (C6.out.kept hg7 (fun he => by have := (O6.out.lt g he.symm).1; omega))
        have O7 : Hid (w7.ownsRow x3.heap.size 3 1 v' (ks ++ [y]).length ((ks ++ [y]).map (Value.int .i64))) := Lib.hid (by simpa using ho)
        have I7 := Lib.hid (intsOk_append IY.out (intsOk_cons HY.out intsOk_nil))
        clear ho hg7 hat GG6 C6 O6 IY HY
        go_wp2
        go_roundw
        case rel => exact ⟨j + 1, ks ++ [y], by go_num, by omega, GG7.out, C7.out, O7.out, I7.out, by simp; omega⟩
        case measure => simp [intOf]; omega
    · have hk4 := k4.1
      have K4 := Lib.hid (k4.grown GG.out (fun e => by have := Option.some.inj e; omega))
      replace k3 := Lib.hid (k3.out.grown GG.out (fun e => by have := Option.some.inj e; have := k3.out.1; omega))
      replace HO2 := Lib.hid (HO2.out.keep GG.out (own_far HO2.out.1 hgl))
      have zg5 := GG.out.size
      replace BB2 := Lib.hid (BB2.out.trans (Below.of_grown (B := w.heap.size) GG.out BB2.out.size (fun k hk => by cases hk; exact hg')))
      have KO := Lib.hid (show ROwn x3 w5 (.slice ka ks.length kc) ks from ⟨O5.out, IY.out, by omega⟩)
      clear k4 O5 IY
      have k4 := K4.out
      clear K4
      have k2 := k3.out
      have ck2 := k2.2.1
      have yk2 := k2.1
      have zk2 := k2.2.2
      have ck4 := k4.2.1
      have yk4 := k4.1
      have hk2 := k3.out.1
      have gf := setFour w5 w.heap.size (.slice va ws.length vc) (.int .i64 h) (.int .i64 b) (.int .i64 n)
      have HF := Lib.hid (HO2.out.keep gf (own_far HO2.out.1 (by omega)))
      have RF := Lib.hid (KO.out.keep gf (own_far KO.out.1 (by omega)))
      have BF := Lib.hid (below_four BB2.out w.heap.size (Nat.le_refl _) (.slice va ws.length vc) (.int .i64 h) (.int .i64 b) (.int .i64 n))
      clear gf
      go_wp2
      refine bodyPost_ret (v := .tuple #[.agg #[.slice va ws.length vc, .int .i64 h, .int .i64 b, .int .i64 n], .slice ka ks.length kc]) ?_ rfl ⟨⟨_, _, _, _, _, _, _, rfl, HF.out.base (by omega), RF.out.base (by omega)⟩, BF.out⟩
      simp [results, Try.results22, go_sem, ck2]

set_option maxHeartbeats 3200000 in
set_option maxRecDepth 100000 in
theorem DrawShape_any {B : Nat} (cv : Value) (zs : List Int) (w : World) (hr : Rd B .u8 w cv zs) (hz : bytesIn zs) (hl : zs.length ≤ 4294967296) :
    Calls Try.prog 26 #[cv] w fun e w' => RootsDrawn w e w' ∧ Below w.heap.size w w' := by
  have HN := Lib.hid (fun (W : World) (hb : Below w.heap.size w W) => DrawCollect_any cv zs W (hr.below' hb) hz hl)
  obtain ⟨ca, cc, rfl⟩ := hr.form
  clear hr hz
  go_enter Try.func26, Try.ntmps26
  go_wp2_with fail
  generalize hx : w.alloc _ = x
  obtain ⟨bb, k2⟩ := Bx.alloc hx
  have hxs : x.heap.size = w.heap.size + 1 := by rw [← hx]; simp
  clear hx
  refine (HN.out x bb).mono ?_
  rintro e w1 ⟨⟨v, ws, h, b, n, vr, rs, rfl, ho, hro⟩, b1⟩
  obtain ⟨va, vc, rfl⟩ := own_form ho.1
  obtain ⟨ra, rc, rfl⟩ := own_form hro.1
  have HO2 := Lib.hid ho
  have RO2 := Lib.hid hro
  have k3 := Lib.hid (k2.below b1 k2.1)
  have BB2 := Lib.hid (bb.trans (b1.mono bb.size))
  have zb1 := b1.size
  clear ho hro bb b1 k2
  go_upto_region 2 with fail
  generalize hx : w1.alloc _ = x3
  obtain ⟨b3, k4⟩ := Bx.alloc hx
  clear hx
  replace k3 := Lib.hid (k3.out.below b3 k3.out.1)
  replace HO2 := Lib.hid (HO2.out.below b3)
  replace RO2 := Lib.hid (RO2.out.below b3)
  replace BB2 := Lib.hid (BB2.out.trans (b3.mono BB2.out.size))
  clear b3
  have k2 := k3.out
  have ck2 := k2.2.1
  have yk2 := k2.1
  have zk2 := k2.2.2
  have ck4 := k4.2.1
  have yk4 := k4.1
  have hk2 := k3.out.1
  have gf := setFour x3 w.heap.size (.slice va ws.length vc) (.int .i64 h) (.int .i64 b) (.int .i64 n)
  have HF := Lib.hid (HO2.out.keep gf (own_far HO2.out.1 (by omega)))
  have RF := Lib.hid (RO2.out.keep gf (own_far RO2.out.1 (by omega)))
  have BF := Lib.hid (below_four BB2.out w.heap.size (Nat.le_refl _) (.slice va ws.length vc) (.int .i64 h) (.int .i64 b) (.int .i64 n))
  clear gf
  go_wp2
  refine bodyPost_ret (v := .tuple #[.agg #[.slice va ws.length vc, .int .i64 h, .int .i64 b, .int .i64 n], .slice ra rs.length rc]) ?_ rfl ⟨⟨_, _, _, _, _, _, _, rfl, HF.out.base (by omega), RF.out.base (by omega)⟩, BF.out⟩
  simp [results, Try.results26, go_sem, ck2]

set_option maxHeartbeats 3200000 in
set_option maxRecDepth 100000 in
theorem DrawBlockAt_any {B : Nat} (cv : Value) (zs : List Int) (w : World) (hr : Rd B .u8 w cv zs) (hz : bytesIn zs) (hl : zs.length ≤ 4294967296) :
    Calls Try.prog 12 #[cv] w fun e w' => PlaceDrawn w e w' ∧ Below w.heap.size w w' := by
  obtain ⟨i0, hi, hz0, hz1, hz2⟩ := info_parts Try.infoI2
  have HN := Lib.hid (fun (W : World) (hb : Below w.heap.size w W) => l1New_any cv zs W (hr.below' hb) hz hl)
  have HB := Lib.hid (fun (w1 W : World) (g : Nat) (hb : Below w.heap.size w w1) (hg : w.heap.size ≤ g) (hC : Cur W g cv zs.length) (hw : w1.grownBy W (some g)) (n : Int) (hn : i64In n) => l1Below_any cv zs n W hC ((hr.below' hb).grown_row hw hg) hz hl hg hn)
  have HO := Lib.hid (fun (w1 W : World) (g : Nat) (hb : Below w.heap.size w w1) (hg : w.heap.size ≤ g) (hC : Cur W g cv zs.length) (hw : w1.grownBy W (some g)) (n : Int) (hn : i64In n) => l1Once_any cv zs n W hC ((hr.below' hb).grown_row hw hg) hz hl hg hn)
  have HP := Lib.hid (fun (w1 W : World) (g : Nat) (hb : Below w.heap.size w w1) (hg : w.heap.size ≤ g) (hC : Cur W g cv zs.length) (hw : w1.grownBy W (some g)) (B2 : Nat) (u : Value) (ys : List Int) (hy : Rd B2 .i64 W u ys) (h0 : 0 < ys.length) (h1 : ys.length ≤ 4294967296) (hne : ∀ a n c, u = .slice (some a) n c → a.block ≠ g) => l1PickInt_any cv u zs ys W hC ((hr.below' hb).grown_row hw hg) hz hl hg hy h0 h1 hne)
  have HD := Lib.hid (fun (w1 : World) (g : Nat) (hb : Below w.heap.size w w1) (hg : w.heap.size ≤ g) (hC : Cur w1 g cv zs.length) => l17Draw_any cv zs w1 hC (hr.below' hb) hz hl hg)
  obtain ⟨ca, cc, rfl⟩ := hr.form
  clear hr hz
  go_enter Try.func12, Try.ntmps12
  go_wp2_with fail
  generalize hx : w.alloc _ = x
  obtain ⟨bb, k2⟩ := Bx.alloc hx
  have hxs : x.heap.size = w.heap.size + 1 := by rw [← hx]; simp
  clear hx
  refine (HN.out x bb).mono ?_
  rintro e w1 ⟨⟨g, rfl, hg, c1⟩, b1⟩
  replace k2 := k2.below b1 k2.1
  replace bb := bb.trans (b1.mono bb.size)
  have zb1 := b1.size
  clear b1
  have hg' : w.heap.size ≤ g := by omega
  have hgl := c1.lt
  go_wp2_with fail
  refine (HD.out w1 g bb hg' c1).mono ?_
  rintro e w2 ⟨v, ws, h, b, n, vr, rs, rfl, D, hrl, gg, c2⟩
  have k3 := k2.grown gg (fun e => by have := Option.some.inj e; omega)
  have bb2 := bb.trans (Below.of_grown (B := w.heap.size) gg bb.size (fun k hk => by cases hk; exact hg'))
  have zg := gg.size
  obtain ⟨va, vc, rfl⟩ := own_form D.own
  obtain ⟨ra, rc, rfl⟩ := own_form D.rown
  have HO2 : HOwn w1 w2 (.slice va ws.length vc) ws h b n := ⟨D.own, D.hin⟩
  have RO2 : ROwn w1 w2 (.slice ra rs.length rc) rs := ⟨D.rown, D.rin, hrl⟩
  have hpos := D.pos
  replace HO2 := Lib.hid HO2
  replace RO2 := Lib.hid RO2
  replace k3 := Lib.hid k3
  have BB := Lib.hid bb
  have BB2 := Lib.hid bb2
  have C2 := Lib.hid c2
  have GG := Lib.hid gg
  clear D k2 bb bb2 c1 c2 gg
  go_upto_region 3 with fail
  generalize hx : w2.alloc _ = x3
  obtain ⟨b3, k4⟩ := Bx.alloc hx
  have hx3 : x3.heap.size = w2.heap.size + 1 := by rw [← hx]; simp
  clear hx
  replace k3 := Lib.hid (k3.out.below b3 k3.out.1)
  replace HO2 := Lib.hid (HO2.out.below b3)
  replace RO2 := Lib.hid (RO2.out.below b3)
  replace BB2 := Lib.hid (BB2.out.trans (b3.mono BB2.out.size))
  have C3 := Lib.hid (C2.out.below b3)
  have G3 := Lib.hid (grow_step GG.out (grow_of_below b3 (some g)) (fun i hi => .inl (Option.some.inj hi).symm))
  have zx3 : w2.heap.size < x3.heap.size := by omega
  clear C2 GG b3 hx3
  rcases RO2.out.1.2 with ⟨_, hv0⟩ | ⟨gr, rcap, rcur, hvr, _⟩
  · exact absurd hv0 (by omega)
  cases hvr
  have hrl2 := RO2.out.2.2
  go_wp2_with fail
  refine (HB.out w1 x3 g BB.out hg' C3.out G3.out rs.length (by unfold i64In; omega)).mono ?_
  rintro e w6 ⟨⟨t, rfl, _, ht2⟩, c6, g6⟩
  obtain ⟨t0, t1⟩ := ht2 (by omega)
  obtain ⟨t, rfl⟩ := Int.eq_ofNat_of_zero_le t0
  have htn : t < rs.length := by omega
  replace RO2 := Lib.hid (RO2.out.keep g6 (own_far RO2.out.1 hgl))
  replace HO2 := Lib.hid (HO2.out.keep g6 (own_far HO2.out.1 hgl))
  have ce := own_cell RO2.out.1 t htn
  rw [List.getElem?_map, List.getElem?_eq_getElem htn, Option.map_some] at ce
  have hy : i64In rs[t] := intsOk_mem RO2.out.2.1 _ (List.getElem_mem htn)
  obtain ⟨y, hye⟩ : ∃ y, rs[t] = y := ⟨_, rfl⟩
  rw [hye] at ce hy
  have HY := Lib.hid (show i64In (y / 2) by unfold i64In at hy ⊢; omega)
  have hk4 := k4.1
  have hgx : g < w2.heap.size := by omega
  have K4 := Lib.hid (k4.grown g6 (fun e => by have := Option.some.inj e; omega))
  replace k3 := Lib.hid (k3.out.grown g6 (fun e => by have := Option.some.inj e; omega))
  replace BB2 := Lib.hid (BB2.out.trans (Below.of_grown (B := w.heap.size) g6 BB2.out.size (fun k hk => by cases hk; exact hg')))
  have C6 := Lib.hid c6
  have G6 := Lib.hid (grow_step G3.out g6 (fun i hi => .inl (Option.some.inj hi).symm))
  clear hye hy c6 g6 ht2 k4 C3 G3
  go_wp2_with fail
  refine (sWordRef_any y w6).mono ?_
  rintro e w' ⟨rfl, rfl⟩
  clear ce
  go_wp2_with fail
  refine (HO.out w1 w6 g BB.out hg' C6.out G6.out 4 (by unfold i64In; omega)).mono ?_
  rintro e w7 ⟨⟨bo, rfl⟩, c7, g7⟩
  replace HO2 := Lib.hid (HO2.out.keep g7 (own_far HO2.out.1 hgl))
  have K7 := Lib.hid (K4.out.grown g7 (fun e => by have := Option.some.inj e; omega))
  replace k3 := Lib.hid (k3.out.grown g7 (fun e => by have := Option.some.inj e; omega))
  replace BB2 := Lib.hid (BB2.out.trans (Below.of_grown (B := w.heap.size) g7 BB2.out.size (fun k hk => by cases hk; exact hg')))
  have C7 := Lib.hid c7
  have G7 := Lib.hid (grow_step G6.out g7 (fun i hi => .inl (Option.some.inj hi).symm))
  clear c7 g7 K4 C6 G6
  cases bo
  · have k4 := K7.out
    clear K7
    have k2 := k3.out
    have ck2 := k2.2.1
    have yk2 := k2.1
    have zk2 := k2.2.2
    have ck4 := k4.2.1
    have yk4 := k4.1
    have hk2 := k3.out.1
    have gf := setFour w7 w.heap.size (.slice va ws.length vc) (.int .i64 h) (.int .i64 b) (.int .i64 n)
    have HF := Lib.hid (HO2.out.keep gf (own_far HO2.out.1 (by omega)))
    have BF := Lib.hid (below_four BB2.out w.heap.size (Nat.le_refl _) (.slice va ws.length vc) (.int .i64 h) (.int .i64 b) (.int .i64 n))
    clear gf
    go_wp2
    refine bodyPost_ret (v := .tuple #[.agg #[.slice va ws.length vc, .int .i64 h, .int .i64 b, .int .i64 n], .int .i64 (y / 2)]) ?_ rfl ⟨⟨_, _, _, _, _, _, rfl, HF.out.base (by omega), HY.out⟩, BF.out⟩
    simp [results, Try.results12, go_sem, ck2]
  · go_wp2_with fail
    refine (HB.out w1 w7 g BB.out hg' C7.out G7.out 9 (by unfold i64In; omega)).mono ?_
    rintro e w8 ⟨⟨r, rfl, _, hr2⟩, c8, g8⟩
    obtain ⟨r0, r1⟩ := hr2 (by omega)
    replace HO2 := Lib.hid (HO2.out.keep g8 (own_far HO2.out.1 hgl))
    have k4 := K7.out.grown g8 (fun e => by have := Option.some.inj e; omega)
    replace k3 := Lib.hid (k3.out.grown g8 (fun e => by have := Option.some.inj e; omega))
    replace BB2 := Lib.hid (BB2.out.trans (Below.of_grown (B := w.heap.size) g8 BB2.out.size (fun k hk => by cases hk; exact hg')))
    clear c8 g8 hr2 K7
    have HR := Lib.hid (show i64In (r - 1) by unfold i64In; omega)
    have k2 := k3.out
    have ck2 := k2.2.1
    have yk2 := k2.1
    have zk2 := k2.2.2
    have ck4 := k4.2.1
    have yk4 := k4.1
    have hk2 := k3.out.1
    have gf := setFour w8 w.heap.size (.slice va ws.length vc) (.int .i64 h) (.int .i64 b) (.int .i64 n)
    have HF := Lib.hid (HO2.out.keep gf (own_far HO2.out.1 (by omega)))
    have BF := Lib.hid (below_four BB2.out w.heap.size (Nat.le_refl _) (.slice va ws.length vc) (.int .i64 h) (.int .i64 b) (.int .i64 n))
    clear gf
    go_wp2
    refine bodyPost_ret (v := .tuple #[.agg #[.slice va ws.length vc, .int .i64 h, .int .i64 b, .int .i64 n], .int .i64 (r - 1)]) ?_ rfl ⟨⟨_, _, _, _, _, _, rfl, HF.out.base (by omega), HR.out⟩, BF.out⟩
    simp [results, Try.results12, go_sem, ck2]

set_option maxHeartbeats 3200000 in
set_option maxRecDepth 100000 in
theorem DrawAlloc_any {B : Nat} (cv : Value) (zs : List Int) (w : World) (hr : Rd B .u8 w cv zs) (hz : bytesIn zs) (hl : zs.length ≤ 4294967296) :
    Calls Try.prog 6 #[cv] w fun e w' => AllocDrawn w e w' ∧ Below w.heap.size w w' := by
  obtain ⟨i0, hi, hz0, hz1, hz2⟩ := info_parts Try.infoI2
  have HN := Lib.hid (fun (W : World) (hb : Below w.heap.size w W) => l1New_any cv zs W (hr.below' hb) hz hl)
  have HB := Lib.hid (fun (w1 W : World) (g : Nat) (hb : Below w.heap.size w w1) (hg : w.heap.size ≤ g) (hC : Cur W g cv zs.length) (hw : w1.grownBy W (some g)) (n : Int) (hn : i64In n) => l1Below_any cv zs n W hC ((hr.below' hb).grown_row hw hg) hz hl hg hn)
  have HO := Lib.hid (fun (w1 W : World) (g : Nat) (hb : Below w.heap.size w w1) (hg : w.heap.size ≤ g) (hC : Cur W g cv zs.length) (hw : w1.grownBy W (some g)) (n : Int) (hn : i64In n) => l1Once_any cv zs n W hC ((hr.below' hb).grown_row hw hg) hz hl hg hn)
  have HP := Lib.hid (fun (w1 W : World) (g : Nat) (hb : Below w.heap.size w w1) (hg : w.heap.size ≤ g) (hC : Cur W g cv zs.length) (hw : w1.grownBy W (some g)) (B2 : Nat) (u : Value) (ys : List Int) (hy : Rd B2 .i64 W u ys) (h0 : 0 < ys.length) (h1 : ys.length ≤ 4294967296) (hne : ∀ a n c, u = .slice (some a) n c → a.block ≠ g) => l1PickInt_any cv u zs ys W hC ((hr.below' hb).grown_row hw hg) hz hl hg hy h0 h1 hne)
  have HD := Lib.hid (fun (w1 : World) (g : Nat) (hb : Below w.heap.size w w1) (hg : w.heap.size ≤ g) (hC : Cur w1 g cv zs.length) => l17Draw_any cv zs w1 hC (hr.below' hb) hz hl hg)
  obtain ⟨ca, cc, rfl⟩ := hr.form
  clear hr hz
  go_enter Try.func6, Try.ntmps6
  go_wp2_with fail
  generalize hx : w.alloc _ = x
  obtain ⟨bb, k2⟩ := Bx.alloc hx
  have hxs : x.heap.size = w.heap.size + 1 := by rw [← hx]; simp
  clear hx
  refine (HN.out x bb).mono ?_
  rintro e w1 ⟨⟨g, rfl, hg, c1⟩, b1⟩
  replace k2 := k2.below b1 k2.1
  replace bb := bb.trans (b1.mono bb.size)
  have zb1 := b1.size
  clear b1
  have hg' : w.heap.size ≤ g := by omega
  have hgl := c1.lt
  go_wp2_with fail
  refine (HD.out w1 g bb hg' c1).mono ?_
  rintro e w2 ⟨v, ws, h, b, n, vr, rs, rfl, D, hrl, gg, c2⟩
  have k3 := k2.grown gg (fun e => by have := Option.some.inj e; omega)
  have bb2 := bb.trans (Below.of_grown (B := w.heap.size) gg bb.size (fun k hk => by cases hk; exact hg'))
  have zg := gg.size
  obtain ⟨va, vc, rfl⟩ := own_form D.own
  obtain ⟨ra, rc, rfl⟩ := own_form D.rown
  have HO2 : HOwn w1 w2 (.slice va ws.length vc) ws h b n := ⟨D.own, D.hin⟩
  have RO2 : ROwn w1 w2 (.slice ra rs.length rc) rs := ⟨D.rown, D.rin, hrl⟩
  have hpos := D.pos
  replace HO2 := Lib.hid HO2
  replace RO2 := Lib.hid RO2
  replace k3 := Lib.hid k3
  have BB := Lib.hid bb
  have BB2 := Lib.hid bb2
  have C2 := Lib.hid c2
  have GG := Lib.hid gg
  clear D k2 bb bb2 c1 c2 gg
  go_upto_region 3 with fail
  generalize hx : w2.alloc _ = x3
  obtain ⟨b3, k4⟩ := Bx.alloc hx
  have hx3 : x3.heap.size = w2.heap.size + 1 := by rw [← hx]; simp
  clear hx
  replace k3 := Lib.hid (k3.out.below b3 k3.out.1)
  replace HO2 := Lib.hid (HO2.out.below b3)
  replace RO2 := Lib.hid (RO2.out.below b3)
  replace BB2 := Lib.hid (BB2.out.trans (b3.mono BB2.out.size))
  have C3 := Lib.hid (C2.out.below b3)
  have G3 := Lib.hid (grow_step GG.out (grow_of_below b3 (some g)) (fun i hi => .inl (Option.some.inj hi).symm))
  have zx3 : w2.heap.size < x3.heap.size := by omega
  clear C2 GG b3 hx3
  have HVL := Lib.hid (own_lt HO2.out.1)
  go_wp2_with fail
  generalize hx : x3.alloc _ = x4
  have ok0 := own_empty (w := x3) (base := x3.heap.size) (e := 3) (size := 1) rfl (Nat.le_refl _)
  rw [hx] at ok0
  obtain ⟨b4, _⟩ := Bx.alloc hx
  clear hx
  have gx := grow_of_below b4 (some g)
  have cx := C3.out.below b4
  have hposr := hpos
  rcases RO2.out.1.2 with ⟨_, hv0⟩ | ⟨gr, rcap, rcur, hvr, _⟩
  · exact absurd hv0 (by omega)
  cases hvr
  have hgx3 : g < x3.heap.size := C3.out.lt
  clear b4
  go_loopw [9, 10] (fun s8 s9 wr => ∃ (j : Nat) (ks : List Int), s9 = .int .i64 j ∧ j ≤ 4 ∧ x3.grownBy wr (some g) ∧ Cur wr g (.slice ca zs.length cc) zs.length ∧ wr.ownsRow x3.heap.size 3 1 s8 ks.length (ks.map (Value.int .i64)) ∧ intsOk ks ∧ ks.length ≤ j) (fun _ i _ => 5 - (intOf i).toNat)
  case atStart => exact ⟨0, [], rfl, by omega, gx, cx, ok0, intsOk_nil, by simp⟩
  case round =>
    clear ok0 gx cx
    obtain ⟨j, ks, rfl, hj, gy, cy, oy, iy, ly⟩ := hrel
    obtain ⟨ka, kc, rfl⟩ := own_form oy
    have GY := Lib.hid gy
    have CY := Lib.hid cy
    have OY := Lib.hid oy
    have IY := Lib.hid iy
    clear gy cy oy iy
    go_wp2_with fail
    refine (HB.out w1 wr g BB.out hg' CY.out (grow_step G3.out GY.out (fun i hi => .inl (Option.some.inj hi).symm)) 4 (by unfold i64In; omega)).mono ?_
    rintro e w5 ⟨⟨q, rfl, _, hq2⟩, c5, g5⟩
    obtain ⟨q0, q1⟩ := hq2 (by omega)
    have GG := Lib.hid (grow_step GY.out g5 (fun i hi => .inl (Option.some.inj hi).symm))
    have O5 := Lib.hid (OY.out.kept g5 (own_far OY.out hgx3))
    have C5 := Lib.hid c5
    clear c5 g5 hq2 CY GY OY
    by_cases hjl : (j : Int) < q
    · go_wp2_with fail
      refine (HB.out w1 w5 g BB.out hg' C5.out (grow_step G3.out GG.out (fun i hi => .inl (Option.some.inj hi).symm)) rs.length (by have := RO2.out.2.2; unfold i64In; omega)).mono ?_
      rintro e w6 ⟨⟨t, rfl, _, ht2⟩, c6, g6⟩
      obtain ⟨t0, t1⟩ := ht2 (by omega)
      obtain ⟨t, rfl⟩ := Int.eq_ofNat_of_zero_le t0
      have gg6 := grow_step GG.out g6 (fun i hi => .inl (Option.some.inj hi).symm)
      have O6 := Lib.hid (O5.out.kept g6 (own_far O5.out hgx3))
      have htn : t < rs.length := by omega
      have ce := own_cell (RO2.out.keep gg6 (own_far RO2.out.1 hgl)).1 t htn
      rw [List.getElem?_map, List.getElem?_eq_getElem htn, Option.map_some] at ce
      have hy : i64In rs[t] := intsOk_mem RO2.out.2.1 _ (List.getElem_mem htn)
      obtain ⟨y, hye⟩ : ∃ y, rs[t] = y := ⟨_, rfl⟩
      rw [hye] at ce hy
      have HY := Lib.hid hy
      have GG6 := Lib.hid gg6
      have C6 := Lib.hid c6
      have zw6 := gg6.size
      clear hye hy gg6 c6 g6 ht2 C5 GG O5
      go_wp2_with (at_builtin; refine wpList_app1_at rfl _ _ 24 rfl x3.heap.size 3 i0 (.int .i64 0) 1 8 Try.underlying24 hi hz0 hz1 hz2 rfl (by decide) _ _ _ rfl O6.out #[_] rfl ?_ w6.heap.size rfl rfl ?_ ?_ ?_ ?_)
      · rfl
      · unfold maxLen; omega
      · omega
      · omega
      · intro v' w7 ho hg7 hat
        have GG7 := Lib.hid (grow_step GG6.out hg7 (fun i hi => .inr (O6.out.lt i hi).1))
        have C7 := Lib.hid (C6.out.kept hg7 (fun he => by have := (O6.out.lt g he.symm).1; omega))
        have O7 : Hid (w7.ownsRow x3.heap.size 3 1 v' (ks ++ [y]).length ((ks ++ [y]).map (Value.int .i64))) := Lib.hid (by simpa using ho)
        have I7 := Lib.hid (intsOk_append IY.out (intsOk_cons HY.out intsOk_nil))
        clear ho hg7 hat GG6 C6 O6 IY HY
        go_wp2
        go_roundw
        case rel => exact ⟨j + 1, ks ++ [y], by go_num, by omega, GG7.out, C7.out, O7.out, I7.out, by simp; omega⟩
        case measure => simp [intOf]; omega
    · have hk4 := k4.1
      have K4 := Lib.hid (k4.grown GG.out (fun e => by have := Option.some.inj e; omega))
      replace k3 := Lib.hid (k3.out.grown GG.out (fun e => by have := Option.some.inj e; have := k3.out.1; omega))
      replace HO2 := Lib.hid (HO2.out.keep GG.out (own_far HO2.out.1 hgl))
      have zg5 := GG.out.size
      replace BB2 := Lib.hid (BB2.out.trans (Below.of_grown (B := w.heap.size) GG.out BB2.out.size (fun k hk => by cases hk; exact hg')))
      have KO := Lib.hid (show ROwn x3 w5 (.slice ka ks.length kc) ks from ⟨O5.out, IY.out, by omega⟩)
      clear k4 O5 IY
      replace C5 := Lib.hid C5.out
      have G5 := Lib.hid (grow_step G3.out GG.out (fun i hi => .inl (Option.some.inj hi).symm))
      clear GG C3 G3
      go_wp2_with fail
      refine (HO.out w1 w5 g BB.out hg' C5.out G5.out 12 (by unfold i64In; omega)).mono ?_
      rintro e w7 ⟨⟨bo, rfl⟩, c7, g7⟩
      replace HO2 := Lib.hid (HO2.out.keep g7 (own_far HO2.out.1 hgl))
      replace KO := Lib.hid (KO.out.keep g7 (own_far KO.out.1 hgx3))
      replace K4 := Lib.hid (K4.out.grown g7 (fun e => by have := Option.some.inj e; omega))
      replace k3 := Lib.hid (k3.out.grown g7 (fun e => by have := Option.some.inj e; have := k3.out.1; omega))
      replace BB2 := Lib.hid (BB2.out.trans (Below.of_grown (B := w.heap.size) g7 BB2.out.size (fun k hk => by cases hk; exact hg')))
      have C7 := Lib.hid c7
      have G7 := Lib.hid (grow_step G5.out g7 (fun i hi => .inl (Option.some.inj hi).symm))
      have zw7 := g7.size
      clear c7 g7 C5 G5
      obtain ⟨bo2, hbo⟩ : ∃ b2, bo = b2 := ⟨_, rfl⟩
      subst hbo
      go_upto_if 37 with fail
      go_cut [9] from 38 to 40 (fun s9 W => ∃ (ks' : List Int), ROwn x3 W s9 ks' ∧ HOwn w1 W (.slice va ws.length vc) ws h b n ∧ Bx W w2.heap.size #[.slice va ws.length vc, .int .i64 h, .int .i64 b, .int .i64 n] ∧ Bx W w.heap.size #[.slice none 0 0, .int .i64 0, .int .i64 0, .int .i64 0] ∧ Below w.heap.size w W ∧ Cur W g (.slice ca zs.length cc) zs.length ∧ w1.grownBy W (some g) ∧ x3.heap.size ≤ W.heap.size)
      case first =>
        cases bo
        · go_wp2_with fail
          go_meet
          exact ⟨_, KO.out, HO2.out, K4.out, k3.out, BB2.out, C7.out, G7.out, by omega⟩
        · have hkl := KO.out.2.2
          go_wp2_with (at_builtin; refine wpList_app1_at rfl _ _ 24 rfl x3.heap.size 3 i0 (.int .i64 0) 1 8 Try.underlying24 hi hz0 hz1 hz2 rfl (by decide) _ _ _ rfl KO.out.1 #[_] rfl ?_ w7.heap.size rfl rfl ?_ ?_ ?_ ?_)
          · rfl
          · unfold maxLen; omega
          · omega
          · omega
          · intro v' w8 ho hg8 hat
            have far : ∀ i, i < x3.heap.size → some i ≠ Value.ownBlock (.slice ka ks.length kc) := fun i hi he => by have := (KO.out.1.lt i he.symm).1; omega
            have F1 := Lib.hid (show ROwn x3 w8 v' (ks ++ [98]) from ⟨by simpa using ho, intsOk_append KO.out.2.1 (intsOk_cons (by unfold i64In; omega) intsOk_nil), by simp; omega⟩)
            have hkr : ∀ i, Value.ownBlock (.slice ka ks.length kc) = some i → x3.heap.size ≤ i := fun i hi => (KO.out.1.lt i hi).1
            have F2 := Lib.hid (HO2.out.keep hg8 (by rcases hv : Value.ownBlock (.slice va ws.length vc) with _ | i; exact .inl rfl; exact .inr (fun e => by have := hkr i e.symm; have := HVL.out i hv; omega)))
            have F3 := Lib.hid (K4.out.grown hg8 (far _ (by omega)))
            have F4 := Lib.hid (k3.out.grown hg8 (far _ (by have := k3.out.1; omega)))
            have F5 := Lib.hid (BB2.out.trans (Below.of_grown (B := w.heap.size) hg8 (by have := BB2.out.size; omega) (fun k hk => by have := hkr k hk; omega)))
            have F6 := Lib.hid (C7.out.kept hg8 (far _ (by omega)))
            have F7 := Lib.hid (grow_step G7.out hg8 (fun i hi => .inr (by have := hkr i hi; omega)))
            have F8 := hg8.size
            clear ho hg8 hat far
            go_wp2_with fail
            go_meet
            exact ⟨_, F1.out, F2.out, F3.out, F4.out, F5.out, F6.out, F7.out, by omega⟩
      case rest =>
        obtain ⟨ks', ko, ho, kx, kr, bw, cw, gw, zw⟩ := hcut
        clear KO HO2 K4 k3 BB2 C7 G7
        obtain ⟨ka', kc', rfl⟩ := own_form ko.1
        have KO := Lib.hid ko
        have HO2 := Lib.hid ho
        have K4 := Lib.hid kx
        have k3 := Lib.hid kr
        have BB2 := Lib.hid bw
        have CW := Lib.hid cw
        have GW := Lib.hid gw
        clear ko ho kx kr bw cw gw
        go_wp2_with fail
        refine (HO.out w1 wc g BB.out hg' CW.out GW.out 3 (by unfold i64In; omega)).mono ?_
        rintro e w9 ⟨⟨bf, rfl⟩, c9, g9⟩
        replace HO2 := Lib.hid (HO2.out.keep g9 (own_far HO2.out.1 hgl))
        replace KO := Lib.hid (KO.out.keep g9 (own_far KO.out.1 hgx3))
        replace K4 := Lib.hid (K4.out.grown g9 (fun e => by have := Option.some.inj e; omega))
        replace k3 := Lib.hid (k3.out.grown g9 (fun e => by have := Option.some.inj e; omega))
        replace BB2 := Lib.hid (BB2.out.trans (Below.of_grown (B := w.heap.size) g9 BB2.out.size (fun k hk => by cases hk; exact hg')))
        have C9 := Lib.hid c9
        have G9 := Lib.hid (grow_step GW.out g9 (fun i hi => .inl (Option.some.inj hi).symm))
        have zw9 := g9.size
        clear c9 g9 CW GW
        go_upto_region 11 with fail
        have q0 := K4.out.four
        refine wp_region_held_drew (S := (fun w' => w'.cell? ⟨w2.heap.size, 0, none⟩ = some (.slice va ws.length vc) ∧ w'.cell? ⟨w2.heap.size, 1, none⟩ = some (.int .i64 h) ∧ w'.cell? ⟨w2.heap.size, 2, none⟩ = some (.int .i64 b) ∧ w'.cell? ⟨w2.heap.size, 3, none⟩ = some (.int .i64 n))) (by kernel_rfl) (by first | (dsimp only; exact q0) | (exact q0)) (fun hHeld => ?_)
        refine' wpAnyH_take (i := 0) (oi := _) (v := _) ?hi0n541 (by kernel_rfl) (by kernel_rfl) (by kernel_rfl) ?hQ0n541 ?hy0n541 (by assumption) ?rest0n541
        case hi0n541 => (simp only [List.getElem?_toArray, List.getElem?_cons_zero]; rfl)
        case hQ0n541 => exact fun _ _ _ h => h
        case hy0n541 => exact Or.inl ⟨by rfl, by (intro w hSw; (try dsimp only at hSw); go_simp; (try with_reducible rfl))⟩
        try simp only [Act.put, List.setIfInBounds_toArray, List.set_cons_zero, List.set_cons_succ]
        refine' wpAnyH_take (i := 1) (oi := _) (v := _) ?hi1n541 (by kernel_rfl) (by kernel_rfl) (by kernel_rfl) ?hQ1n541 ?hy1n541 (by assumption) ?rest1n541
        case hi1n541 => (simp only [List.getElem?_toArray, List.getElem?_cons_succ, List.getElem?_cons_zero]; rfl)
        case hQ1n541 => exact fun _ _ _ h => h
        case hy1n541 => exact Or.inl ⟨by rfl, by (intro w hSw; (try dsimp only at hSw); go_simp; (try with_reducible rfl))⟩
        try simp only [Act.put, List.setIfInBounds_toArray, List.set_cons_zero, List.set_cons_succ]
        refine' wpAnyH_take (i := 2) (oi := _) (v := _) ?hi2n541 (by kernel_rfl) (by kernel_rfl) (by kernel_rfl) ?hQ2n541 ?hy2n541 (by assumption) ?rest2n541
        case hi2n541 => (simp only [List.getElem?_toArray, List.getElem?_cons_succ, List.getElem?_cons_zero]; rfl)
        case hQ2n541 => exact fun _ _ _ h => h
        case hy2n541 => exact Or.inl ⟨by rfl, by (intro w hSw; (try dsimp only at hSw); go_simp; (try with_reducible rfl))⟩
        try simp only [Act.put, List.setIfInBounds_toArray, List.set_cons_zero, List.set_cons_succ]
        refine' wpAnyH_take (i := 5) (oi := _) (v := _) ?hi5n541 (by kernel_rfl) (by kernel_rfl) (by kernel_rfl) ?hQ5n541 ?hy5n541 (by assumption) ?rest5n541
        case hi5n541 => (simp only [List.getElem?_toArray, List.getElem?_cons_succ, List.getElem?_cons_zero]; rfl)
        case hQ5n541 => exact fun _ _ _ h => h
        case hy5n541 => exact Or.inl ⟨by rfl, by (intro w hSw; (try dsimp only at hSw); go_simp; (try with_reducible rfl))⟩
        try simp only [Act.put, List.setIfInBounds_toArray, List.set_cons_zero, List.set_cons_succ]
        have bxd : Below w9.heap.size w9 w9.drew := (Below.refl _ _).drew
        replace HO2 := Lib.hid (HO2.out.below bxd)
        replace KO := Lib.hid (KO.out.below bxd)
        replace K4 := Lib.hid (K4.out.below bxd K4.out.1)
        replace k3 := Lib.hid (k3.out.below bxd k3.out.1)
        replace BB2 := Lib.hid (BB2.out.trans (bxd.mono BB2.out.size))
        replace C9 := Lib.hid (C9.out.below bxd)
        replace G9 := Lib.hid (grow_step G9.out (grow_of_below bxd (some g)) (fun i hi => .inl (Option.some.inj hi).symm))
        have zxd := bxd.size
        generalize hxw : w9.drew = xd at hHeld HO2 KO K4 k3 BB2 C9 G9 zxd ⊢
        clear hxw bxd q0
        refine wpAnyH_ready (rs := [3]) (by kernel_rfl) (by simp) ?_
        refine AllReadyH.cons (by (simp only [List.getElem?_toArray, List.getElem?_cons_succ, List.getElem?_cons_zero]; rfl)) (fun K hK => ?_) AllReadyH.nil
        go_simp
        generalize hy : xd.alloc _ = x5
        have ry := Rd.made hy [0, 1, 7, 3000, 3001, -1] rfl (by decide)
        obtain ⟨b9, _⟩ := Bx.alloc hy
        clear hy
        have hga : g < xd.heap.size := C9.out.lt
        replace HO2 := Lib.hid (HO2.out.below b9)
        replace KO := Lib.hid (KO.out.below b9)
        replace K4 := Lib.hid (K4.out.below b9 K4.out.1)
        replace k3 := Lib.hid (k3.out.below b9 k3.out.1)
        replace BB2 := Lib.hid (BB2.out.trans (b9.mono BB2.out.size))
        replace C9 := Lib.hid (C9.out.below b9)
        replace G9 := Lib.hid (grow_step G9.out (grow_of_below b9 (some g)) (fun i hi => .inl (Option.some.inj hi).symm))
        have zx5 := b9.size
        clear b9
        have q0 := K4.out.four
        refine hK.out _ _ (by first | (dsimp only; exact q0) | exact q0) (fun hHeld => ?_)
        clear q0 hK K
        try simp only [Act.put, List.setIfInBounds_toArray, List.set_cons_zero, List.set_cons_succ]
        refine wpAnyH_ready (rs := [4]) (by kernel_rfl) (by simp) ?_
        refine AllReadyH.cons (by (simp only [List.getElem?_toArray, List.getElem?_cons_succ, List.getElem?_cons_zero]; rfl)) (fun K hK => ?_) AllReadyH.nil
        go_simp
        have HPc := Lib.hid (HP.out w1 x5 g BB.out hg' C9.out G9.out _ _ _ ry (by decide) (by decide) (fun a n c h => by cases h; dsimp only; omega))
        refine HPc.out.mono ?_
        rintro e x6 ⟨⟨y, rfl, hy⟩, c1, g1⟩
        have HY := Lib.hid (all_in (by decide) hy)
        clear hy HPc ry
        replace HO2 := Lib.hid (HO2.out.keep g1 (own_far HO2.out.1 hgl))
        replace KO := Lib.hid (KO.out.keep g1 (own_far KO.out.1 hgx3))
        replace K4 := Lib.hid (K4.out.grown g1 (fun e => by have := Option.some.inj e; omega))
        replace k3 := Lib.hid (k3.out.grown g1 (fun e => by have := Option.some.inj e; omega))
        replace BB2 := Lib.hid (BB2.out.trans (Below.of_grown (B := w.heap.size) g1 BB2.out.size (fun k hk => by cases hk; exact hg')))
        clear c1 g1 C9 G9
        dsimp only
        have q0 := K4.out.four
        refine hK.out _ _ (by first | (dsimp only; exact q0) | exact q0) (fun hHeld => ?_)
        clear q0 hK K
        try simp only [Act.put, List.setIfInBounds_toArray, List.set_cons_zero, List.set_cons_succ]
        have c2 := k3.out.2.1
        have f2 := k3.out.2.2
        have hk2 := k3.out.1
        have gf := setFour x6 w.heap.size (.slice va ws.length vc) (.int .i64 h) (.int .i64 b) (.int .i64 n)
        have HF := Lib.hid (HO2.out.keep gf (own_far HO2.out.1 (by omega)))
        have RF := Lib.hid (KO.out.keep gf (own_far KO.out.1 (by omega)))
        have BF := Lib.hid (below_four BB2.out w.heap.size (Nat.le_refl _) (.slice va ws.length vc) (.int .i64 h) (.int .i64 b) (.int .i64 n))
        have K5 := Lib.hid (K4.out.grown gf (fun e => by have := Option.some.inj e; omega))
        have k10 := ((((k3.out.set 0 (by simp) (.slice va ws.length vc)).set 1 (by simp) (.int .i64 h)).set 2 (by simp) (.int .i64 b)).set 3 (by simp) (.int .i64 n))
        have K10 := Lib.hid k10
        clear gf k10
        refine wpAnyH_ready (rs := [6]) (by kernel_rfl) (by simp) ?_
        refine AllReadyH.cons (by (simp only [List.getElem?_toArray, List.getElem?_cons_succ, List.getElem?_cons_zero]; rfl)) (fun K hK => ?_) AllReadyH.nil
        go_simp
        generalize hww : World.setCell _ _ _ = W4 at HF RF BF K10 K5 ⊢
        clear hww
        have q0 := K5.out.four
        refine hK.out _ _ (by first | (dsimp only; exact q0) | exact q0) (fun hHeld => ?_)
        clear q0 hK K
        try simp only [Act.put, List.setIfInBounds_toArray, List.set_cons_zero, List.set_cons_succ]
        refine' wpAnyH_take (i := 7) (oi := _) (v := _) ?hi7n613 (by kernel_rfl) (by kernel_rfl) (by kernel_rfl) ?hQ7n613 ?hy7n613 (by assumption) ?rest7n613
        case hi7n613 => (simp only [List.getElem?_toArray, List.getElem?_cons_succ, List.getElem?_cons_zero]; rfl)
        case hQ7n613 => exact fun _ _ _ h => h
        case hy7n613 => exact Or.inl ⟨by rfl, by (intro w hSw; (try dsimp only at hSw); go_simp; (try with_reducible rfl))⟩
        try simp only [Act.put, List.setIfInBounds_toArray, List.set_cons_zero, List.set_cons_succ]
        refine' wpAnyH_take (i := 8) (oi := _) (v := _) ?hi8n613 (by kernel_rfl) (by kernel_rfl) (by kernel_rfl) ?hQ8n613 ?hy8n613 (by assumption) ?rest8n613
        case hi8n613 => (simp only [List.getElem?_toArray, List.getElem?_cons_succ, List.getElem?_cons_zero]; rfl)
        case hQ8n613 => exact fun _ _ _ h => h
        case hy8n613 => exact Or.inl ⟨by rfl, by (intro w hSw; (try dsimp only at hSw); go_simp; (try with_reducible rfl))⟩
        try simp only [Act.put, List.setIfInBounds_toArray, List.set_cons_zero, List.set_cons_succ]
        refine' wpAnyH_take (i := 9) (oi := _) (v := _) ?hi9n613 (by kernel_rfl) (by kernel_rfl) (by kernel_rfl) ?hQ9n613 ?hy9n613 (by assumption) ?rest9n613
        case hi9n613 => (simp only [List.getElem?_toArray, List.getElem?_cons_succ, List.getElem?_cons_zero]; rfl)
        case hQ9n613 => exact fun _ _ _ h => h
        case hy9n613 => exact Or.inl ⟨by rfl, by (intro w hSw; (try dsimp only at hSw); go_simp; (try with_reducible rfl))⟩
        try simp only [Act.put, List.setIfInBounds_toArray, List.set_cons_zero, List.set_cons_succ]
        refine wpAnyH_done (by kernel_rfl) ?_ _
        clear c2 f2
        have k2 := K10.out
        have ck2 := k2.2.1
        have yk2 := k2.1
        go_wp2
        refine bodyPost_ret (v := .tuple #[.agg #[.slice va ws.length vc, .int .i64 h, .int .i64 b, .int .i64 n], .bool bf, .int .i64 y, .slice ka' ks'.length kc']) ?_ rfl ⟨⟨_, _, _, _, _, _, _, _, _, rfl, HF.out.base (by omega), RF.out.base (by omega), HY.out⟩, BF.out⟩
        simp [results, Try.results6, go_sem, ck2]

end Go.Proofs.Ytmcoidnonmmpjaa
