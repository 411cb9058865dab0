/- A reader's function: fun (impl). -/
import Derived.Test.YtkpkofddfjgmpaaNum
import Derived.Test.YtkpkofddfjgmpaaAcc
import Derived.Test.YtkpkofddfjgmpaaTold
import Derived.IntWalk
namespace Go.Proofs.Ytkpkofddfjgmpaa
open Go.RowKit
set_option linter.unusedVariables false
set_option linter.unusedSimpArgs false

theorem grownBy.new {w W W' : World} {g : Nat} {row : Option Nat} (h : w.grownBy W (some g)) (k : W.grownBy W' row) (hr : ∀ q, row = some q → w.heap.size ≤ q) : w.grownBy W' (some g) :=
  ⟨k.os.trans h.os, k.tape.trans h.tape, k.output.trans h.output, Nat.le_trans h.size k.size, fun i hi hne => (k.block i (Nat.lt_of_lt_of_le hi h.size) (fun e => by have := hr i e.symm; omega)).trans (h.block i hi hne)⟩
theorem Rd.kept {B g : Nat} {k : IntKind} {w W : World} {v : Value} {zs : List Int} (h : Rd B k w v zs) (hg : w.grownBy W (some g)) (hB : B ≤ g) : Rd B k W v zs := by
  rcases h with h | ⟨b, off, cap, h1, h2, h3, h4, h5⟩
  · exact .inl h
  · exact .inr ⟨b, off, cap, h1, h2, Nat.lt_of_lt_of_le h3 hg.size, h4, fun j hj => (World.cell?_of_block (hg.block b h3 (fun e => by injection e with e; omega))).trans (h5 j hj)⟩

structure FunRel (b : List Int) (i : Int) (x : F2) (i' : Int) (ok' : Bool) : Prop where
  yes : ok' = true → funAt b i = some (x, i')
  no : ok' = false → funAt b i = none
  le : i ≤ i'
  len : i' ≤ b.length
  fin : fnIn x
  many : x.os.length ≤ b.length + 1
/-- what holds ahead of the k-th place of a function of c places. -/
structure FunInv (b : List Int) (i0 f : Int) (c k : Nat) (i : Int) (ok : Bool) (acc : List O3) : Prop where
  yes : ok = true → (acc.length : Int) ≤ i ∧ funAt b i0 = (opsGo b (c - k) i acc).map (fun r => (⟨f, r.1⟩, r.2))
  no : ok = false → funAt b i0 = none
  le : i0 ≤ i
  len : i ≤ b.length
  many : acc.length ≤ b.length + 1
  fin : ∀ o ∈ acc, o3In o
theorem funAt_eq (b : List Int) (i : Int) : funAt b i = match numAt b i with
  | none => none
  | some (f, i1) => match numAt b i1 with
    | none => none
    | some (m, i2) => (opsGo b m.toNat i2 []).map (fun r => (⟨f, r.1⟩, r.2)) := by
  unfold funAt
  cases numAt b i with
  | none => rfl
  | some r =>
    obtain ⟨f, i1⟩ := r
    dsimp only
    cases numAt b i1 with
    | none => rfl
    | some r =>
      obtain ⟨m, i2⟩ := r
      dsimp only
      cases opsGo b m.toNat i2 [] <;> rfl
theorem FunInv.start {b : List Int} {i0 f i1 i2 : Int} {c : Nat} {ok1 ok2 : Bool} (h1 : NumRel b i0 true f i1 ok1) (h2 : NumRel b i1 ok1 (c : Int) i2 ok2) (h0 : 0 ≤ i0) : FunInv b i0 f c 0 i2 ok2 [] := by
  refine ⟨fun h => ?_, fun h => ?_, Int.le_trans h1.le h2.le, h2.len, by simp, fun o ho => by simp at ho⟩
  · obtain ⟨a, e2⟩ := h2.yes h
    obtain ⟨_, e1⟩ := h1.yes a
    have := h1.le
    have := h2.le
    refine ⟨by simp; omega, ?_⟩
    rw [funAt_eq, e1]
    dsimp only
    rw [e2]
    simp
  · rw [funAt_eq]
    rcases h2.no h with a | e2
    · rcases h1.no a with a | e1
      · cases a
      · rw [e1]
    · cases hh : ok1
      · rcases h1.no hh with a | e1
        · cases a
        · rw [e1]
      · rw [(h1.yes hh).2]
        dsimp only
        rw [e2]
theorem FunInv.step {b : List Int} {i0 f i i1 i2 i3 x y z : Int} {c k : Nat} {ok1 ok2 ok3 : Bool} {acc : List O3} (h : FunInv b i0 f c k i true acc) (hk : k < c) (hb : bytesOk b)
    (h1 : NumRel b i true x i1 ok1) (h2 : NumRel b i1 ok1 y i2 ok2) (h3 : NumRel b i2 ok2 z i3 ok3) : FunInv b i0 f c (k + 1) i3 ok3 (acc ++ [⟨x, y - 1073741824, z⟩]) := by
  obtain ⟨g1, g2⟩ := h.yes rfl
  have l1 := h.len
  have hs : c - k = (c - (k + 1)) + 1 := by omega
  refine ⟨fun e => ?_, fun e => ?_, by have := h.le; have := h1.le; have := h2.le; have := h3.le; omega, h3.len, by simp; omega, fun o ho => ?_⟩
  · obtain ⟨a3, e3⟩ := h3.yes e
    obtain ⟨a2, e2⟩ := h2.yes a3
    obtain ⟨_, e1⟩ := h1.yes a2
    have n1 := numAt_bound hb e1
    have n2 := numAt_bound hb e2
    have n3 := numAt_bound hb e3
    refine ⟨by simp; omega, ?_⟩
    rw [g2, hs]
    conv => lhs; unfold opsGo
    rw [e1]
    dsimp only
    rw [e2]
    dsimp only
    rw [e3]
  · rw [g2, hs]
    have key : opsGo b (c - (k + 1) + 1) i acc = none := by
      unfold opsGo
      cases e1 : numAt b i with
      | none => rfl
      | some r1 =>
        obtain ⟨x', j1⟩ := r1
        dsimp only
        have a1 : ok1 = true := by
          cases hh : ok1
          · rcases h1.no hh with a | a
            · cases a
            · rw [e1] at a; cases a
          · rfl
        obtain ⟨_, a⟩ := h1.yes a1
        rw [e1] at a
        simp only [Option.some.injEq, Prod.mk.injEq] at a
        obtain ⟨rfl, rfl⟩ := a
        cases e2 : numAt b j1 with
        | none => rfl
        | some r2 =>
          obtain ⟨y', j2⟩ := r2
          dsimp only
          have a2 : ok2 = true := by
            cases hh : ok2
            · rcases h2.no hh with a | a
              · rw [a1] at a; cases a
              · rw [e2] at a; cases a
            · rfl
          obtain ⟨_, a⟩ := h2.yes a2
          rw [e2] at a
          simp only [Option.some.injEq, Prod.mk.injEq] at a
          obtain ⟨rfl, rfl⟩ := a
          rcases h3.no e with a | a
          · rw [a2] at a; cases a
          · rw [a]
    rw [key]
    rfl
  · rcases List.mem_append.1 ho with ho | ho
    · exact h.fin o ho
    · rw [List.mem_singleton] at ho
      subst ho
      have := h1.lo; have := h1.hi; have := h2.lo; have := h2.hi; have := h3.lo; have := h3.hi
      exact ⟨⟨by dsimp only; omega, by dsimp only; omega⟩, ⟨by dsimp only; omega, by dsimp only; omega⟩, by dsimp only; omega, by dsimp only; omega⟩
theorem FunInv.done {b : List Int} {i0 f i : Int} {c k : Nat} {ok : Bool} {acc : List O3} (h : FunInv b i0 f c k i ok acc) (hk : ok = true → c ≤ k) (hf : 0 ≤ f ∧ f ≤ 2147483647) : FunRel b i0 ⟨f, acc⟩ i ok := by
  refine ⟨fun e => ?_, h.no, h.le, h.len, ⟨⟨by dsimp only; omega, by dsimp only; omega⟩, h.fin⟩, h.many⟩
  have := (h.yes e).2
  rw [show c - k = 0 by have := hk e; omega] at this
  simpa [opsGo] using this
def FunPost (g : Nat) (w : World) (bv : Value) (b : List Int) (i : Int) (e : Ending) (w' : World) : Prop :=
  ∃ (x : F2) (v : Value) (i' : Int) (ok' : Bool), e = .returned (.agg #[.int .i64 x.f, v]) ∧ FunRel b i x i' ok' ∧ w'.ownsRow w.heap.size 81 3 v x.os.length (flat O3.enc x.os) ∧ Bx w' g #[bv, .int .i64 i', .bool ok'] ∧ w.grownBy w' (some g)

theorem own_off {v : Value} {g : Nat} (h : ∀ q, v.ownBlock = some q → q ≠ g) : v.ownBlock = none ∨ v.ownBlock ≠ some g := .inr (fun hh => h _ hh rfl)
theorem own_ne {base g : Nat} {e : TypeId} {sz n : Nat} {w : World} {v : Value} {xs : List Value} (h : w.ownsRow base e sz v n xs) (hg : g < base) : v.ownBlock = none ∨ v.ownBlock ≠ some g := by
  cases hq : v.ownBlock with
  | none => exact .inl rfl
  | some k => exact .inr (fun hh => by have := (h.lt k hq).1; injection hh with hh; omega)

set_option maxHeartbeats 3200000 in
set_option maxRecDepth 100000 in
theorem iFun_any {B : Nat} (g : Nat) (bv : Value) (b : List Int) (i0 : Int) (w : World) (hk : Bx w g #[bv, .int .i64 i0, .bool true]) (hr : Rd B .u8 w bv b) (hBg : B ≤ g) (hb : bytesOk b) (h0 : 0 ≤ i0) (h1 : i0 ≤ b.length) (hn : b.length ≤ 1048576) :
    Calls Try.prog 88 #[.pointer (some ⟨g, 0, none⟩)] w (FunPost g w bv b i0) := by
  obtain ⟨ti, hi, hz0, hz1, hz2⟩ := info_parts Try.infoOp
  have HN := Lib.hid (fun (W : World) (i : Int) (ok : Bool) (hx : Bx W g #[bv, .int .i64 i, .bool ok]) (gr : w.grownBy W (some g)) (h0 : 0 ≤ i) (h1 : i ≤ b.length) => iNum_any g bv b i ok W hx (hr.kept gr hBg) hb h0 h1 (by omega))
  have HB := Lib.hid hb
  have yg := hk.1
  have HK := Lib.hid hk
  clear hr hb hk
  go_enter Try.func88, Try.ntmps88
  go_wp2_with fail
  generalize hx : (w.alloc _).alloc _ = x
  obtain ⟨bb, kr, kf, sx⟩ := alloc_two hx
  clear hx
  have own : x.ownsRow (w.heap.size + 2) 81 3 (.slice none 0 0) 0 (flat O3.enc []) := World.ownsRow_nil _ _ _ _
  have hx := HK.out.below bb yg
  have gr : w.grownBy x (some g) := ⟨bb.os, bb.tape, bb.output, bb.size, fun i hi _ => bb.block i hi⟩
  have hxs : w.heap.size + 2 ≤ x.heap.size := Nat.le_of_eq sx.symm
  clear bb sx HK
  refine (HN.out _ _ _ hx gr (by omega) (by omega)).mono ?_
  rintro e w1 ⟨n1, i1, ok1, rfl, r1, hx2, g2, s2⟩
  replace kr := kr.grown g2 (fun h => by have := Option.some.inj h; omega)
  replace kf := kf.grown g2 (fun h => by have := Option.some.inj h; omega)
  replace own := own.kept g2 (own_ne own (by omega))
  replace gr := grownBy.trans gr g2
  replace hx := hx2
  replace hxs := Nat.le_trans hxs g2.size
  have t1 := r1.le
  have u1 := r1.len
  have a1 := r1.lo
  have c1 := r1.hi
  clear g2 hx2 s2
  have ckf := kf.2.1
  have ykf := kf.1
  have zkf := kf.2.2
  go_wp2_with fail
  clear ckf ykf zkf
  have gs := grownBy.setCell w1 (w.heap.size + 1) 0 (.int .i64 n1)
  replace hx := hx.grown gs (fun h => by have := Option.some.inj h; omega)
  replace kr := kr.grown gs (fun h => by have := Option.some.inj h; omega)
  replace kf : Bx _ (w.heap.size + 1) #[.int .i64 n1, .slice none 0 0] := kf.put 0 (by simp) (.int .i64 n1)
  replace own := own.kept gs (own_ne own (by omega))
  replace gr := grownBy.new gr gs (fun q hq => by have := Option.some.inj hq; omega)
  replace hxs := Nat.le_trans hxs gs.size
  clear gs
  generalize w1.setCell ⟨w.heap.size + 1, 0, none⟩ (.int .i64 n1) = x1 at *
  refine (HN.out _ _ _ hx gr (by omega) (by omega)).mono ?_
  rintro e w2 ⟨n2, i2, ok2, rfl, r2, hx2, g2, s2⟩
  replace kr := kr.grown g2 (fun h => by have := Option.some.inj h; omega)
  replace kf := kf.grown g2 (fun h => by have := Option.some.inj h; omega)
  replace own := own.kept g2 (own_ne own (by omega))
  replace gr := grownBy.trans gr g2
  replace hx := hx2
  replace hxs := Nat.le_trans hxs g2.size
  have t2 := r2.le
  have u2 := r2.len
  have a2 := r2.lo
  have c2 := r2.hi
  clear g2 hx2 s2
  obtain ⟨c, rfl⟩ : ∃ c : Nat, n2 = (c : Int) := ⟨n2.toNat, by omega⟩
  have HI := FunInv.start r1 r2 h0
  have HR1 := Lib.hid r1
  clear r1 r2
  go_wp2
  go_loopw [5] (fun s wr => ∃ (k : Nat) (acc : List O3) (i : Int) (ok : Bool) (v : Value), k ≤ c ∧ s = .int .i64 k ∧ Hid (FunInv b i0 n1 c k i ok acc) ∧ Bx wr g #[bv, .int .i64 i, .bool ok] ∧ w.grownBy wr (some g) ∧ Bx wr w.heap.size #[.int .i64 0, .slice none 0 0] ∧ Bx wr (w.heap.size + 1) #[.int .i64 n1, v] ∧ wr.ownsRow (w.heap.size + 2) 81 3 v acc.length (flat O3.enc acc) ∧ w.heap.size + 2 ≤ wr.heap.size) (fun s _ => c - (intOf s).toNat)
  case atStart => exact ⟨0, [], i2, ok2, _, Nat.zero_le _, rfl, Lib.hid HI, hx, gr, kr, kf, own, hxs⟩
  case round =>
    clear HI hx gr kr kf own hxs t1 u1 t2 u2 a2
    obtain ⟨k, acc, i, ok, v, hk, rfl, HI, hx, gr, kr, kf, own, hxs⟩ := hrel
    have l1 := HI.out.le
    have l2 := HI.out.len
    have l3 := HI.out.many
    obtain ⟨va, vc, rfl⟩ := own_form own
    by_cases hgo : ok = true ∧ k < c
    · obtain ⟨rfl, hlt⟩ := hgo
      have hki : (k : Int) < (c : Int) := by omega
      have chx := hx.2.1
      have yhx := hx.1
      have zhx := hx.2.2
      go_wp2_with fail
      clear chx yhx zhx
      have hol := own_lt own
      generalize hz : wr.alloc _ = z
      obtain ⟨bz, ko⟩ := Bx.alloc hz
      clear hz
      replace hx := hx.below bz hx.1
      replace kr := kr.below bz kr.1
      replace kf := kf.below bz kf.1
      replace own := own_below own bz hol
      have hne : ∀ q, (Value.slice va acc.length vc).ownBlock = some q → q ≠ wr.heap.size := fun q hq => Nat.ne_of_lt (hol q hq)
      replace gr : w.grownBy z (some g) := grownBy.trans gr ⟨bz.os, bz.tape, bz.output, bz.size, fun i hi _ => bz.block i hi⟩
      obtain ⟨O, hO⟩ : ∃ O, wr.heap.size = O := ⟨_, rfl⟩
      rw [hO] at ko hne
      have hOs : w.heap.size + 2 ≤ O := by omega
      replace hxs := Nat.le_trans hxs bz.size
      subst hO
      clear bz hol
      refine (HN.out _ _ _ hx gr (by omega) (by omega)).mono ?_
      rintro e w3 ⟨n3, i3, ok3, rfl, r3, hx2, g2, s2⟩
      replace kr := kr.grown g2 (fun h => by have := Option.some.inj h; omega)
      replace kf := kf.grown g2 (fun h => by have := Option.some.inj h; omega)
      replace ko := ko.grown g2 (fun h => by have := Option.some.inj h; omega)
      replace own := own.kept g2 (own_ne own (by omega))
      replace gr := grownBy.trans gr g2
      replace hx := hx2
      replace hxs := Nat.le_trans hxs g2.size
      have t3 := r3.le
      have u3 := r3.len
      have a3 := r3.lo
      have c3 := r3.hi
      clear g2 hx2 s2
      have cko := ko.2.1
      have yko := ko.1
      have zko := ko.2.2
      go_wp2_with fail
      clear cko yko zko
      have gs := grownBy.setCell w3 (wr.heap.size) 0 (.int .i64 n3)
      replace hx := hx.grown gs (fun h => by have := Option.some.inj h; omega)
      replace kr := kr.grown gs (fun h => by have := Option.some.inj h; omega)
      replace kf := kf.grown gs (fun h => by have := Option.some.inj h; omega)
      replace ko : Bx _ (wr.heap.size) #[.int .i64 n3, .int .i64 0, .int .i64 0] := ko.put 0 (by simp) (.int .i64 n3)
      replace own := own.kept gs (own_off hne)
      replace gr := grownBy.new gr gs (fun q hq => by have := Option.some.inj hq; omega)
      replace hxs := Nat.le_trans hxs gs.size
      clear gs
      generalize w3.setCell ⟨wr.heap.size, 0, none⟩ (.int .i64 n3) = x3 at *
      refine (HN.out _ _ _ hx gr (by omega) (by omega)).mono ?_
      rintro e w4 ⟨n4, i4, ok4, rfl, r4, hx2, g2, s2⟩
      replace kr := kr.grown g2 (fun h => by have := Option.some.inj h; omega)
      replace kf := kf.grown g2 (fun h => by have := Option.some.inj h; omega)
      replace ko := ko.grown g2 (fun h => by have := Option.some.inj h; omega)
      replace own := own.kept g2 (own_ne own (by omega))
      replace gr := grownBy.trans gr g2
      replace hx := hx2
      replace hxs := Nat.le_trans hxs g2.size
      have t4 := r4.le
      have u4 := r4.len
      have a4 := r4.lo
      have c4 := r4.hi
      clear g2 hx2 s2
      have cko := ko.2.1
      have yko := ko.1
      have zko := ko.2.2
      have e9 : IntKind.i64.wrap (n4 - 1073741824) = n4 - 1073741824 := IntWalk.i64_in _ (by omega)
      go_wp2_with fail
      clear cko yko zko
      have gs := grownBy.setCell w4 (wr.heap.size) 1 (.int .i64 (n4 - 1073741824))
      replace hx := hx.grown gs (fun h => by have := Option.some.inj h; omega)
      replace kr := kr.grown gs (fun h => by have := Option.some.inj h; omega)
      replace kf := kf.grown gs (fun h => by have := Option.some.inj h; omega)
      replace ko : Bx _ (wr.heap.size) #[.int .i64 n3, .int .i64 (n4 - 1073741824), .int .i64 0] := ko.put 1 (by simp) (.int .i64 (n4 - 1073741824))
      replace own := own.kept gs (own_off hne)
      replace gr := grownBy.new gr gs (fun q hq => by have := Option.some.inj hq; omega)
      replace hxs := Nat.le_trans hxs gs.size
      clear gs
      generalize w4.setCell ⟨wr.heap.size, 1, none⟩ (.int .i64 (n4 - 1073741824)) = x4 at *
      refine (HN.out _ _ _ hx gr (by omega) (by omega)).mono ?_
      rintro e w5 ⟨n5, i5, ok5, rfl, r5, hx2, g2, s2⟩
      replace kr := kr.grown g2 (fun h => by have := Option.some.inj h; omega)
      replace kf := kf.grown g2 (fun h => by have := Option.some.inj h; omega)
      replace ko := ko.grown g2 (fun h => by have := Option.some.inj h; omega)
      replace own := own.kept g2 (own_ne own (by omega))
      replace gr := grownBy.trans gr g2
      replace hx := hx2
      replace hxs := Nat.le_trans hxs g2.size
      have t5 := r5.le
      have u5 := r5.len
      have a5 := r5.lo
      have c5 := r5.hi
      clear g2 hx2 s2
      have HS := Lib.hid (FunInv.step HI.out hlt HB.out r3 r4 r5)
      clear HI r3 r4 r5
      have cko := ko.2.1
      have yko := ko.1
      have zko := ko.2.2
      have ckf := kf.2.1
      have ykf := kf.1
      have zkf := kf.2.2
      go_wp2_with (at_builtin; refine wpList_app1 rfl _ _ 32 rfl (w.heap.size + 2) 81 ti (.agg #[.int .i64 0, .int .i64 0, .int .i64 0]) 3 24 Try.underlying32 hi hz0 hz1 hz2 rfl (by decide) _ _ _ (by rfl) (own.kept (grownBy.setCell w5 (wr.heap.size) 2 (.int .i64 n5)) (own_off hne)) #[.int .i64 n3, .int .i64 (n4 - 1073741824), .int .i64 n5] rfl (by simp [Value.oneCell']) (by simp only [World.size_setCell]; rfl) (by unfold maxLen; omega) (by omega) (by simp only [World.size_setCell]; omega) ?_)
      intro v9 w9 own9 g9 nn
      clear cko yko zko ckf ykf zkf
      have gs := grownBy.setCell w5 (wr.heap.size) 2 (.int .i64 n5)
      replace hx := hx.grown gs (fun h => by have := Option.some.inj h; omega)
      replace kr := kr.grown gs (fun h => by have := Option.some.inj h; omega)
      replace kf := kf.grown gs (fun h => by have := Option.some.inj h; omega)
      replace ko : Bx _ (wr.heap.size) #[.int .i64 n3, .int .i64 (n4 - 1073741824), .int .i64 n5] := ko.put 2 (by simp) (.int .i64 n5)
      replace own := own.kept gs (own_off hne)
      replace gr := grownBy.new gr gs (fun q hq => by have := Option.some.inj hq; omega)
      replace hxs := Nat.le_trans hxs gs.size
      clear gs
      generalize w5.setCell ⟨wr.heap.size, 2, none⟩ (.int .i64 n5) = x5 at *
      obtain ⟨acc2, ha2, hl2⟩ : ∃ l, l = acc ++ [(⟨n3, n4 - 1073741824, n5⟩ : O3)] ∧ l.length = acc.length + 1 := ⟨_, rfl, by simp⟩
      replace own9 : w9.ownsRow (w.heap.size + 2) 81 3 v9 acc2.length (flat O3.enc acc2) := by rw [hl2, ha2, flat_snoc]; exact own9
      rw [← ha2] at HS
      clear ha2 hl2
      replace hx := hx.grown g9 (fun h => by have := (own.lt _ h.symm).1; omega)
      replace kr := kr.grown g9 (fun h => by have := (own.lt _ h.symm).1; omega)
      replace kf := kf.grown g9 (fun h => by have := (own.lt _ h.symm).1; omega)
      replace gr := grownBy.new gr g9 (fun q hq => by have := (own.lt q hq).1; omega)
      replace hxs := Nat.le_trans hxs g9.size
      clear g9 nn own ko hne
      have own := own9
      clear own9
      obtain ⟨va9, vc9, rfl⟩ := own_form own
      have ckf := kf.2.1
      have ykf := kf.1
      have zkf := kf.2.2
      go_wp2
      clear ckf ykf zkf
      have gs := grownBy.setCell w9 (w.heap.size + 1) 1 (.slice va9 acc2.length vc9)
      go_roundw
      case rel => exact ⟨k + 1, acc2, i5, ok5, _, hlt, by go_num, HS, hx.grown gs (fun h => by have := Option.some.inj h; omega), grownBy.new gr gs (fun q hq => by have := Option.some.inj hq; omega), kr.grown gs (fun h => by have := Option.some.inj h; omega), kf.put 1 (by simp) _, own.kept gs (own_ne own (by omega)), Nat.le_trans hxs gs.size⟩
      case measure => simp [intOf]; omega
    · by_cases hlt : k < c
      · have hki : (k : Int) < (c : Int) := by omega
        obtain rfl : ok = false := by cases ok; rfl; exact absurd ⟨rfl, hlt⟩ hgo
        have HD := Lib.hid (FunInv.done HI.out (fun h => by cases h) ⟨a1, c1⟩)
        clear HI
        have ckr := kr.2.1
        have ykr := kr.1
        have zkr := kr.2.2
        have ckf := kf.2.1
        have ykf := kf.1
        have zkf := kf.2.2
        have chx := hx.2.1
        have yhx := hx.1
        have zhx := hx.2.2
        go_wp2
        have gs := grownBy.trans (grownBy.setCell wr w.heap.size 0 (.int .i64 n1)) (grownBy.setCell (wr.setCell ⟨w.heap.size, 0, none⟩ (.int .i64 n1)) w.heap.size 1 (.slice va acc.length vc))
        refine bodyPost_ret (v := .agg #[.int .i64 n1, .slice va acc.length vc]) ?_ rfl ?_
        · have k2 : Bx _ w.heap.size #[.int .i64 n1, .slice va acc.length vc] := (kr.put 0 (by simp) (.int .i64 n1)).put 1 (by simp) (.slice va acc.length vc)
          have c9 := k2.2.1
          simp [results, Try.results88, go_sem, c9]
        · exact ⟨⟨n1, acc⟩, _, i, _, rfl, HD.out, own_base (own.kept gs (own_ne own (by omega))) (by omega), hx.grown gs (fun h => by have := Option.some.inj h; omega), grownBy.new gr gs (fun q hq => by have := Option.some.inj hq; omega)⟩
      · have hki : ¬ ((k : Int) < (c : Int)) := by omega
        have HD := Lib.hid (FunInv.done HI.out (fun _ => by omega) ⟨a1, c1⟩)
        clear HI
        have ckr := kr.2.1
        have ykr := kr.1
        have zkr := kr.2.2
        have ckf := kf.2.1
        have ykf := kf.1
        have zkf := kf.2.2
        have chx := hx.2.1
        have yhx := hx.1
        have zhx := hx.2.2
        go_wp2
        have gs := grownBy.trans (grownBy.setCell wr w.heap.size 0 (.int .i64 n1)) (grownBy.setCell (wr.setCell ⟨w.heap.size, 0, none⟩ (.int .i64 n1)) w.heap.size 1 (.slice va acc.length vc))
        refine bodyPost_ret (v := .agg #[.int .i64 n1, .slice va acc.length vc]) ?_ rfl ?_
        · have k2 : Bx _ w.heap.size #[.int .i64 n1, .slice va acc.length vc] := (kr.put 0 (by simp) (.int .i64 n1)).put 1 (by simp) (.slice va acc.length vc)
          have c9 := k2.2.1
          simp [results, Try.results88, go_sem, c9]
        · exact ⟨⟨n1, acc⟩, _, i, _, rfl, HD.out, own_base (own.kept gs (own_ne own (by omega))) (by omega), hx.grown gs (fun h => by have := Option.some.inj h; omega), grownBy.new gr gs (fun q hq => by have := Option.some.inj hq; omega)⟩

end Go.Proofs.Ytkpkofddfjgmpaa
