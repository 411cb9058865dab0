/- Parts of the proof of FnBytes. -/
import Derived.Test.YtdmkhipimcjipaaGreatZ29
import Derived.Test.YtdmkhipimcjipaaGreatZ16
import Derived.Test.YtdmkhipimcjipaaGreatZ15
set_option linter.unusedVariables false
set_option linter.unusedSimpArgs false
section
namespace Go.Proofs.YtdmkhipimcjipaaGreat
open Go.RowKit Go.Ev
set_option linter.unusedVariables false
set_option linter.unusedSimpArgs false
theorem step_app_rd {P : Program} {w : World} {ops : Array Oper} {o : Oper} {a : Act} {K : Act → World → Prop} {Q : Exit → Act → World → Prop} {E : Prop} (hgd : o.guard = none) (s x : Operand) (t : TypeId)
    (ho : o.op = .call { callee := .builtin .append, args := #[s, x], argTypes := #[t, t] })
    (base : Nat) (e : TypeId) (i : TypeInfo) (z : Value) (bytes : Nat) (ht : P.underlying t = some (.slice e)) (hi : P.info? e = some i) (hz : i.zero = some z)
    (hsize : i.size = 1) (hby : i.bytes = bytes) (hzs : z.cells.size = 1)
    (v : Value) (n : Nat) (xs : List Value) (hs : a.eval s = v) (hown : w.ownsRow base e 1 v n xs)
    {B : Nat} {k : IntKind} (A : Option Addr) (m c : Nat) (zs : List Int) (hx : a.eval x = .slice A m c) (hr : Rd B k w (.slice A m c) zs)
    (h63 : n + m ≤ 4294967296) (hbytes : bytes ≤ 1000) (hbase : base ≤ w.heap.size)
    (h : ∀ v' w', w'.ownsRow base e 1 v' (n + m) (xs ++ zs.map (Value.int k)) → w.grownBy w' v.ownBlock → (v'.ownBlock = v.ownBlock ∨ v'.ownBlock = some w.heap.size) → K (a.put o.dst v') w') :
    if Region.wanted o (yielded ops a.tmps) = true then Oper.wp P o a w K Q else E := by
  have hw : Region.wanted o (yielded ops a.tmps) = true := by simp [Region.wanted, hgd]
  rw [if_pos hw]
  obtain ⟨v', w', hrun, h2, h3, h4⟩ := run_app_rd (P := P) w base t o.type e i z bytes ht hi hz hsize hby hzs v n xs hown A m c zs hr (by unfold maxLen; omega) (by
    have : (n + m) * bytes ≤ 4294967296 * 1000 := Nat.mul_le_mul h63 hbytes
    omega) hbase
  unfold Oper.wp execOp
  simp only [ho, resolve, invoke, builtin, Sem.run_bind, Sem.run_pure, Result.andThen_ok, List.map_toArray, List.map_cons, List.map_nil, hs, hx, hrun]
  exact h v' w' h2 h3 h4
theorem bytes_small {fs : List F2} (h : FnsIn fs) : (funsBytes fs).length ≤ 300000 := by
  unfold funsBytes
  split
  · have h1 : ∀ os : List O3, (os.flatMap opBytes).length ≤ 15 * os.length := fun os => flatMap_len os (fun o _ => by
      have a := putNum_len5 o.c
      have b := putNum_len5 (o.n + 1073741824)
      have c := putNum_len5 o.m
      unfold opBytes
      simp only [List.length_append]
      omega)
    have h2 := flatMap_len (f := fnBytes) (b := 4510) fs (fun x hx => by
      have a := putNum_len5 x.f
      have b := putNum_len5 (x.os.length : Int)
      have c := h1 x.os
      have d := h.os x hx
      unfold fnBytes
      simp only [List.length_append]
      omega)
    have h3 := putNum_len5 (fs.length : Int)
    have h4 := h.len
    unfold funsRaw
    rw [List.length_append]
    omega
  · simp
theorem funsBytes_b (fs : List F2) : ByB (funsBytes fs) := by
  unfold funsBytes
  split
  · unfold funsRaw
    refine (putNum_b _).append fun x hx => ?_
    obtain ⟨f, _, hx⟩ := List.mem_flatMap.1 hx
    unfold fnBytes at hx
    rcases List.mem_append.1 hx with hx | hx
    · exact ((putNum_b _).append (putNum_b _)) x hx
    · obtain ⟨o, _, hx⟩ := List.mem_flatMap.1 hx
      unfold opBytes at hx
      exact ((putNum_b _).append ((putNum_b _).append (putNum_b _))) x hx
  · intro x hx; cases hx
theorem fsA_ok (k : Nat) (hk : k < 7) : funsOk (fsA k) = true := by
  have hk' : k = 0 ∨ k = 1 ∨ k = 2 ∨ k = 3 ∨ k = 4 ∨ k = 5 ∨ k = 6 := by omega
  rcases hk' with rfl | rfl | rfl | rfl | rfl | rfl | rfl <;> decide +kernel
theorem bytes_pos {fs : List F2} (h : funsOk fs = true) : 0 < (funsBytes fs).length := by
  unfold funsBytes funsRaw
  rw [if_pos h, List.length_append]
  have h1 := (funsOk_parts h).1
  have : 0 < (putNum (fs.length : Int)).length := by
    unfold putNum
    rw [if_pos (inB_true.2 ⟨by omega, by omega⟩)]
    by_cases hh : 127 < ((fs.length : Int)).toNat
    · rw [putN_big hh]; simp
    · rw [putN_small hh]; simp
  omega
structure DF (w W : World) (g N : Nat) (cv : Value) (m : Nat) (bv : Value) (bs : List Int) (A I B : Option (Value × List Int)) : Prop where
  cur : Cur W g cv m
  low : Below w.heap.size w W
  gN : g < N
  wg : w.heap.size ≤ g
  le : N ≤ W.heap.size
  own : W.ownsRow N 5 1 bv bs.length (bs.map (Value.int .u8))
  a : ∀ x, A = some x → W.ownsRow N 5 1 x.1 x.2.length (x.2.map (Value.int .u8)) ∧ Blk x.1 bv
  i : ∀ x, I = some x → W.ownsRow N 3 1 x.1 x.2.length (x.2.map (Value.int .i64))
  b : ∀ x, B = some x → W.ownsRow N 5 1 x.1 x.2.length (x.2.map (Value.int .u8)) ∧ Blk x.1 bv
  ab : ∀ x y, A = some x → B = some y → Blk x.1 y.1
  ai : ∀ x y, A = some x → I = some y → Blk x.1 y.1
section
variable {w W W' : World} {g N m : Nat} {cv bv : Value} {bs : List Int} {A I B : Option (Value × List Int)}
theorem DF.below (h : DF w W g N cv m bv bs A I B) (hb : Below W.heap.size W W') : DF w W' g N cv m bv bs A I B :=
  ⟨h.cur.below hb, h.low.trans (hb.mono h.low.size), h.gN, h.wg, Nat.le_trans h.le hb.size, own_below h.own hb (own_lt h.own), fun x e => ⟨own_below (h.a x e).1 hb (own_lt (h.a x e).1), (h.a x e).2⟩, fun x e => own_below (h.i x e) hb (own_lt (h.i x e)), fun x e => ⟨own_below (h.b x e).1 hb (own_lt (h.b x e).1), (h.b x e).2⟩, h.ab, h.ai⟩
theorem DF.draw (h : DF w W g N cv m bv bs A I B) (c : Cur W' g cv m) (hg : W.grownBy W' (some g)) : DF w W' g N cv m bv bs A I B :=
  ⟨c, h.low.trans (Below.of_grown (B := w.heap.size) hg h.low.size (fun k hk => by cases hk; exact h.wg)), h.gN, h.wg, Nat.le_trans h.le hg.size, h.own.kept hg (own_far h.own h.gN), fun x e => ⟨(h.a x e).1.kept hg (own_far (h.a x e).1 h.gN), (h.a x e).2⟩, fun x e => (h.i x e).kept hg (own_far (h.i x e) h.gN), fun x e => ⟨(h.b x e).1.kept hg (own_far (h.b x e).1 h.gN), (h.b x e).2⟩, h.ab, h.ai⟩
theorem blk_new {base sz n : Nat} {e : TypeId} {v : Value} {xs : List Value} (h : W.ownsRow base e sz v n xs) {k c : Nat} : Blk (.slice (some ⟨W.heap.size, 0, none⟩) k c) v := fun p q hp hq => by
  have := own_lt h q hq
  cases hp
  dsimp only
  omega
theorem blk_symm {u v : Value} (h : Blk u v) : Blk v u := fun p q hp hq e => h q p hq hp e.symm
theorem DF.mkA (h : DF w W g N cv m bv bs none I B) (hx : W.alloc (.cells #[] 5) = W') : DF w W' g N cv m bv bs (some (.slice (some ⟨W.heap.size, 0, none⟩) 0 0, [])) I B := by
  have h' := h.below (Bx.alloc hx).1
  refine ⟨h'.cur, h'.low, h'.gN, h'.wg, h'.le, h'.own, fun x e => ?_, h'.i, h'.b, fun x y e e' => ?_, fun x y e e' => ?_⟩ <;> obtain rfl := Option.some.inj e
  · exact ⟨own_made hx h.le 0 rfl (by unfold maxLen; omega), blk_new h.own⟩
  · exact blk_new (h.b y e').1
  · exact blk_new (h.i y e')
theorem DF.mkI (h : DF w W g N cv m bv bs A none B) (ys : List Int) (k : Nat) (hk : ys.length = k) (hm : k ≤ 100) {C : Array Value} (hC : C = (ys.map (Value.int .i64)).toArray) (hx : W.alloc (.cells C 3) = W') : DF w W' g N cv m bv bs A (some (.slice (some ⟨W.heap.size, 0, none⟩) k k, ys)) B := by
  have h' := h.below (Bx.alloc hx).1
  refine ⟨h'.cur, h'.low, h'.gN, h'.wg, h'.le, h'.own, h'.a, fun x e => ?_, h'.b, h'.ab, fun x y e e' => ?_⟩
  · obtain rfl := Option.some.inj e
    subst hC
    dsimp only
    rw [hk]
    exact own_made hx h.le k (by simp [hk]) (by unfold maxLen; omega)
  · obtain rfl := Option.some.inj e'
    exact blk_symm (blk_new (h.a x e).1)
theorem DF.mkB (h : DF w W g N cv m bv bs A I none) (x : Int) (hx : W.alloc (.cells #[.int .u8 x] 5) = W') : DF w W' g N cv m bv bs A I (some (.slice (some ⟨W.heap.size, 0, none⟩) 1 1, [x])) := by
  have h' := h.below (Bx.alloc hx).1
  refine ⟨h'.cur, h'.low, h'.gN, h'.wg, h'.le, h'.own, h'.a, h'.i, fun x e => ?_, fun x y e e' => ?_, h'.ai⟩
  · obtain rfl := Option.some.inj e
    exact ⟨own_made hx h.le 1 rfl (by unfold maxLen; omega), blk_new h.own⟩
  · obtain rfl := Option.some.inj e'
    exact blk_symm (blk_new (h.a x e).1)
theorem own_apartBlk {base sz n : Nat} {e : TypeId} {u v : Value} {xs : List Value} (h : W.ownsRow base e sz v n xs) (hb : Blk u v) (hg : W.grownBy W' u.ownBlock) : W'.ownsRow base e sz v n xs := by
  refine h.kept hg ?_
  cases hv : v.ownBlock with
  | none => exact .inl rfl
  | some q => exact .inr fun hu => hb q q hu.symm hv rfl
theorem blk_alt {base sz n : Nat} {e : TypeId} {u u' v : Value} {xs : List Value} (h : W.ownsRow base e sz v n xs) (hb : Blk u v) (alt : u'.ownBlock = u.ownBlock ∨ u'.ownBlock = some W.heap.size) : Blk u' v := fun p q hp hq => by
  rcases alt with e | e
  · exact hb p q (e ▸ hp) hq
  · rw [e] at hp
    cases hp
    have := own_lt h q hq
    omega
theorem DF.grow_cur (h : DF w W g N cv m bv bs A I B) {v : Value} {n sz : Nat} {e : TypeId} {xs : List Value} (hv : W.ownsRow N e sz v n xs) (hg : W.grownBy W' v.ownBlock) : Cur W' g cv m ∧ Below w.heap.size w W' :=
  ⟨h.cur.kept hg (fun e => by have := (hv.lt g e.symm).1; have := h.gN; omega), h.low.trans (Below.of_grown (B := w.heap.size) hg h.low.size (fun k hk => by have := (hv.lt k hk).1; have := h.gN; have := h.wg; omega))⟩
theorem DF.appA {v v' : Value} {xs ys : List Int} (h : DF w W g N cv m bv bs (some (v, xs)) I B) (o : W'.ownsRow N 5 1 v' (xs.length + ys.length) (xs.map (Value.int .u8) ++ ys.map (Value.int .u8))) (hg : W.grownBy W' v.ownBlock)
    (alt : v'.ownBlock = v.ownBlock ∨ v'.ownBlock = some W.heap.size) : DF w W' g N cv m bv bs (some (v', xs ++ ys)) I B := by
  rw [← List.map_append, ← List.length_append] at o
  obtain ⟨ha, hab⟩ := h.a _ rfl
  obtain ⟨c1, c2⟩ := h.grow_cur ha hg
  refine ⟨c1, c2, h.gN, h.wg, Nat.le_trans h.le hg.size, own_apartBlk h.own hab hg, fun x e => ?_, fun x e => own_apartBlk (h.i x e) (h.ai _ x rfl e) hg, fun x e => ⟨own_apartBlk (h.b x e).1 (h.ab _ x rfl e) hg, (h.b x e).2⟩, fun x y e e' => ?_, fun x y e e' => ?_⟩ <;> obtain rfl := Option.some.inj e
  · exact ⟨o, blk_alt h.own hab alt⟩
  · exact blk_alt (h.b y e').1 (h.ab _ y rfl e') alt
  · exact blk_alt (h.i y e') (h.ai _ y rfl e') alt
theorem DF.appB {v v' : Value} {xs ys : List Int} (h : DF w W g N cv m bv bs A I (some (v, xs))) (hi : I = none) (o : W'.ownsRow N 5 1 v' (xs.length + ys.length) (xs.map (Value.int .u8) ++ ys.map (Value.int .u8))) (hg : W.grownBy W' v.ownBlock)
    (alt : v'.ownBlock = v.ownBlock ∨ v'.ownBlock = some W.heap.size) : DF w W' g N cv m bv bs A I (some (v', xs ++ ys)) := by
  rw [← List.map_append, ← List.length_append] at o
  obtain ⟨hb, hbb⟩ := h.b _ rfl
  obtain ⟨c1, c2⟩ := h.grow_cur hb hg
  refine ⟨c1, c2, h.gN, h.wg, Nat.le_trans h.le hg.size, own_apartBlk h.own hbb hg, fun x e => ⟨own_apartBlk (h.a x e).1 (blk_symm (h.ab x _ e rfl)) hg, (h.a x e).2⟩, (fun x e => by rw [hi] at e; cases e), fun x e => ?_, fun x y e e' => ?_, h.ai⟩
  · obtain rfl := Option.some.inj e
    exact ⟨o, blk_alt h.own hbb alt⟩
  · obtain rfl := Option.some.inj e'
    exact blk_symm (blk_alt (h.a x e).1 (blk_symm (h.ab x _ e rfl)) alt)
theorem DF.dropI (h : DF w W g N cv m bv bs A I B) : DF w W g N cv m bv bs A none B :=
  ⟨h.cur, h.low, h.gN, h.wg, h.le, h.own, h.a, (fun x e => by cases e), h.b, h.ab, (fun x y e e' => by cases e')⟩
end
theorem rd_take {B : Nat} {k : IntKind} {w : World} {gb n c t : Nat} {zs : List Int} (h : Rd B k w (.slice (some ⟨gb, 0, none⟩) n c) zs) (ht : t ≤ n) (hn : 0 < n) : Rd B k w (.slice (some ⟨gb, 0, none⟩) t c) (zs.take t) := by
  rcases h with ⟨h0, a, cap, hv⟩ | ⟨b, off, cap, hv, h2, h3, h4, h5⟩
  · cases hv; omega
  · cases hv
    have hl : (zs.take t).length = t := by rw [List.length_take]; omega
    refine .inr ⟨gb, 0, c, by rw [hl], h2, h3, by rw [hl]; omega, fun j hj => ?_⟩
    rw [hl] at hj
    rw [h5 j (by omega), List.getD_eq_getElem?_getD, List.getD_eq_getElem?_getD, List.getElem?_take, if_pos hj]
theorem rd_drop {B : Nat} {k : IntKind} {w : World} {gb n c t : Nat} {zs : List Int} (h : Rd B k w (.slice (some ⟨gb, 0, none⟩) n c) zs) (ht : t ≤ n) (hn : 0 < n) (AD : Addr) (h1 : c = t → AD = ⟨gb, 0, none⟩) (h2' : ¬ c = t → AD = ⟨gb, t, none⟩) : Rd B k w (.slice (some AD) (n - t) (c - t)) (zs.drop t) := by
  rcases h with ⟨h0, a, cap, hv⟩ | ⟨b, off, cap, hv, h2, h3, h4, h5⟩
  · cases hv; omega
  · cases hv
    have hl : (zs.drop t).length = zs.length - t := by rw [List.length_drop]
    by_cases hc : zs.length = t
    · have : zs.drop t = [] := List.eq_nil_of_length_eq_zero (by omega)
      rw [this]
      exact .inl ⟨rfl, some AD, c - t, by rw [hc, Nat.sub_self]⟩
    · obtain rfl := h2' (by omega)
      refine .inr ⟨gb, t, c - t, by rw [hl], h2, h3, by rw [hl]; omega, fun j hj => ?_⟩
      rw [hl] at hj
      have := h5 (t + j) (by omega)
      rw [Nat.zero_add] at this
      rw [this, List.getD_eq_getElem?_getD, List.getD_eq_getElem?_getD, List.getElem?_drop]
end Go.Proofs.YtdmkhipimcjipaaGreat
end
section
namespace Go.Proofs.YtdmkhipimcjipaaGreat
open Go.RowKit Go.Ev
set_option linter.unusedVariables false
set_option linter.unusedSimpArgs false
set_option maxHeartbeats 6400000 in
set_option maxRecDepth 100000 in
theorem DrawFunsOf_any {B : Nat} (v : Value) (zs : List Int) (w : World) (hr : Rd B .u8 w v zs) (hz : bytesIn zs) (hl : zs.length ≤ 4294967296) :
    Calls Tryz.prog 17 #[v] w fun e w' => (∃ x ys, e = .returned x ∧ Rd w'.heap.size .u8 w' x ys ∧ ByB ys ∧ ys.length ≤ 300001) ∧ Below w.heap.size w w' := by
  obtain ⟨i0, hi, hz0, hz1, hz2⟩ := info_parts Tryz.infoU8
  have HN := Lib.hid (l1New_any v zs w hr hz hl)
  have RR := fun (W : World) (hb : Below w.heap.size w W) => hr.below' hb
  have HD := Lib.hid (fun (g : Nat) (W : World) (c : Cur W g v zs.length) (hb : Below w.heap.size w W) (hg : w.heap.size ≤ g) => l13DrawRight_any v zs W c (fun W' hb' => RR W' (hb.trans (hb'.mono hb.size))) hz hl hg)
  have HB := Lib.hid (fun (g : Nat) (n : Int) (W : World) (c : Cur W g v zs.length) (hb : Below w.heap.size w W) (hg : w.heap.size ≤ g) (hn : i64In n) => l1Below_any v zs n W c (RR W hb) hz hl hg hn)
  have HI := Lib.hid (fun (g : Nat) (W : World) (u : Value) (ys : List Int) (B2 : Nat) (c : Cur W g v zs.length) (hb : Below w.heap.size w W) (hg : w.heap.size ≤ g) (hy : Rd B2 .i64 W u ys) (h0 : 0 < ys.length) (h1 : ys.length ≤ 4294967296) (hne : ∀ a n c, u = .slice (some a) n c → a.block ≠ g) => l1PickInt_any v u zs ys W c (RR W hb) hz hl hg hy h0 h1 hne)
  obtain ⟨a, c, rfl⟩ := hr.form
  clear hr RR
  go_enter Tryz.func17, Tryz.ntmps17
  go_wp2_with fail
  refine HN.out.mono ?_
  rintro e w1 ⟨⟨g, rfl, hg, c1⟩, b1⟩
  have z1 := b1.size
  have hg1 := c1.lt
  have HD1 := Lib.hid (HD.out g w1 c1 b1 hg)
  clear HN HD c1
  go_wp2_with fail
  refine HD1.out.mono ?_
  rintro e w2 ⟨k, a0, a1, a2, a3, a4, a5, fv, hk, rfl, SO, rf, d2⟩
  have s0 := st_one (SO a0 (by simp))
  have s1 := st_one (SO a1 (by simp))
  have s2 := st_one (SO a2 (by simp))
  have s3 := st_one (SO a3 (by simp))
  have s4 := st_one (SO a4 (by simp))
  have s5 := st_one (SO a5 (by simp))
  have FI := (fsA_in k hk).1
  have fok := fsA_ok k hk
  obtain ⟨fs, hfs⟩ : ∃ fs, fsA k = fs := ⟨_, rfl⟩
  rw [hfs] at rf FI fok
  have hl60 := FI.len
  have z2 := d2.size
  have L2 : Below w.heap.size w w2 := b1.trans (Below.of_grown (B := w.heap.size) d2.grown z1 (fun k hk => by cases hk; exact hg))
  have HF := Lib.hid (fun (W : World) (hb : Below w2.heap.size w2 W) => sFunsBytes_any fv fs W (rf.below' hb) FI.fn (by omega))
  have hbl := bytes_small FI
  have hbp := bytes_pos fok
  have hbb := funsBytes_b fs
  obtain ⟨fa, fc, rfl⟩ := rf.form
  obtain ⟨bs, hbs⟩ : ∃ bs, funsBytes fs = bs := ⟨_, rfl⟩
  rw [hbs] at HF hbl hbp hbb
  clear SO HD1 hfs rf hk b1 FI fok hbs
  go_wp2_with fail
  generalize hxx : w2.alloc _ = w3
  obtain ⟨b3, _⟩ := Bx.alloc hxx
  clear hxx s0 s1 s2 s3 s4 s5
  have z3 := b3.size
  refine (HF.out w3 b3).mono ?_
  rintro e w4 ⟨bv, rfl, ob, b4⟩
  obtain ⟨gb, cap, rfl, hgb1, hgb2⟩ := own_slc ob hbp
  have hcap := own_cap ob
  have G4 : DF w w4 g w3.heap.size (.slice a zs.length c) zs.length (.slice (some ⟨gb, 0, none⟩) bs.length cap) bs none none none :=
    ⟨(d2.cur.below b3).below b4, (L2.trans (b3.mono L2.size)).trans (b4.mono (by omega)), by have := d2.cur.lt; omega, hg, b4.size, ob, by simp, by simp, by simp, by simp, by simp⟩
  clear HF b3 b4 d2 L2 ob
  go_wp2_with fail
  refine (HB.out g ((bs.length : Int) + 1) w4 G4.cur G4.low hg (by unfold i64In; omega)).mono ?_
  rintro e w5 ⟨⟨t, rfl, _, hr2⟩, c5, g5⟩
  obtain ⟨t0, t1⟩ := hr2 (by omega)
  obtain ⟨t, rfl⟩ := Int.eq_ofNat_of_zero_le t0
  have ht : t ≤ bs.length := by omega
  have hti : (t : Int) ≤ (bs.length : Int) := by omega
  have hti2 : (t : Int) ≤ (cap : Int) := by omega
  have G5 := G4.draw c5 g5
  clear t0 t1 hr2 c5 g5 G4
  go_wp2_with fail
  refine (HB.out g 5 w5 G5.cur G5.low hg (by unfold i64In; omega)).mono ?_
  rintro e w6 ⟨⟨r, rfl, _, hr2⟩, c6, g6⟩
  obtain ⟨r0, r1⟩ := hr2 (by omega)
  have G6 := G5.draw c6 g6
  clear hr2 c6 g6 G5
  have hr' : r = 0 ∨ r = 1 ∨ 2 ≤ r := by omega
  rcases hr' with rfl | rfl | hr6
  · have RT := Lib.hid (rd_take (Rd.of_own G6.own) ht hbp)
    have LL := Lib.hid G6.low
    have hbt : ByB (bs.take t) := fun x hx => hbb x (List.mem_of_mem_take hx)
    have hlt' : (bs.take t).length ≤ 300001 := by rw [List.length_take]; omega
    clear G6
    go_wp2
    go_ret
    exact ⟨⟨_, _, rfl, RT.out, hbt, hlt'⟩, LL.out⟩
  · obtain ⟨AD, CD, ND, hAD⟩ : ∃ (AD : Addr) (CD ND : Nat), (t = cap ∧ AD = ⟨gb, 0, none⟩ ∧ CD = 0 ∧ ND = 0) ∨ (¬ cap = t ∧ AD = ⟨gb, t, none⟩ ∧ CD = cap - t ∧ ND = bs.length - t) := by
      by_cases h : t = cap
      · exact ⟨_, _, _, .inl ⟨h, rfl, rfl, rfl⟩⟩
      · exact ⟨_, _, _, .inr ⟨fun e => h e.symm, rfl, rfl, rfl⟩⟩
    have RTK := Lib.hid (fun (W : World) (n : Nat) (h : W.ownsRow n 5 1 (.slice (some ⟨gb, 0, none⟩) bs.length cap) bs.length (bs.map (Value.int .u8))) => rd_take (Rd.of_own h) ht hbp)
    have RDR := Lib.hid (fun (W : World) (n : Nat) (h : W.ownsRow n 5 1 (.slice (some ⟨gb, 0, none⟩) bs.length cap) bs.length (bs.map (Value.int .u8))) => (by
      have := rd_drop (Rd.of_own h) ht hbp AD (fun e => by rcases hAD with ⟨_, h1, _, _⟩ | ⟨h0, _, _, _⟩; (· exact h1); (· exact absurd e h0)) (fun e => by rcases hAD with ⟨h0, _, _, _⟩ | ⟨_, h1, _, _⟩; (· exact absurd h0.symm e); (· exact h1))
      have hcd : CD = cap - t := by rcases hAD with ⟨h0, _, h1, _⟩ | ⟨_, _, h1, _⟩ <;> omega
      have hnd : ND = bs.length - t := by rcases hAD with ⟨h0, _, _, h1⟩ | ⟨_, _, _, h1⟩ <;> omega
      rw [← hcd, ← hnd] at this
      exact this : Rd W.heap.size .u8 W (.slice (some AD) ND CD) (bs.drop t)))
    have hlt' : (bs.take t).length = t := by rw [List.length_take]; omega
    have hld' : (bs.drop t).length = bs.length - t := by rw [List.length_drop]
    have hbt : ByB (bs.take t) := fun x hx => hbb x (List.mem_of_mem_take hx)
    have hbd : ByB (bs.drop t) := fun x hx => hbb x (List.mem_of_mem_drop hx)
    go_wp2_with fail
    have hnd : ND = (bs.drop t).length := by rw [List.length_drop]; rcases hAD with ⟨h0, _, _, h1⟩ | ⟨_, _, _, h1⟩ <;> omega
    have hND := Lib.hid hnd
    clear hnd
    rcases hAD with ⟨rfl, rfl, rfl, rfl⟩ | ⟨hca, rfl, rfl, rfl⟩
    all_goals
      refine wp_region_held_drew (S := (fun _ => True)) (by kernel_rfl) (by first | (dsimp only; trivial) | (trivial)) (fun hHeld => ?_)
      refine tkH (i := 1) ?_
      refine tkH (i := 2) ?_
      refine tkH (i := 3) ?_
      refine tkH (i := 5) ?_
      refine tkH (i := 10) ?_
      refine tkH (i := 11) ?_
      refine tkH (i := 12) ?_
      generalize hxd : w6.drew = y0 at hHeld
      have G := G6.below (show Below w6.heap.size w6 y0 by rw [← hxd]; exact (Below.refl _ _).drew)
      clear hxd
      refine wpAnyH_ready (rs := [0, 6]) (by kernel_rfl) (by simp) ?_
      refine AllReadyH.cons (by (simp only [List.getElem?_toArray, List.getElem?_cons_succ, List.getElem?_cons_zero]; rfl)) (fun K hK => ?_) (AllReadyH.cons (by (simp only [List.getElem?_toArray, List.getElem?_cons_succ, List.getElem?_cons_zero]; rfl)) (fun K hK => ?_) AllReadyH.nil)
      · skip
        go_simp
        generalize hy : y0.alloc _ = y1
        replace G := G.mkA hy
        clear hy
        refine hK.out _ _ (by exact trivial) (fun hHeld => ?_)
        clear hK K
        try simp only [Act.put, List.setIfInBounds_toArray, List.set_cons_zero, List.set_cons_succ]
        refine wpAnyH_ready (rs := [4, 6]) (by kernel_rfl) (by simp) ?_
        refine AllReadyH.cons (by (simp only [List.getElem?_toArray, List.getElem?_cons_succ, List.getElem?_cons_zero]; rfl)) (fun K hK => ?_) (AllReadyH.cons (by (simp only [List.getElem?_toArray, List.getElem?_cons_succ, List.getElem?_cons_zero]; rfl)) (fun K hK => ?_) AllReadyH.nil)
        · skip
          refine step_app_rd (B := y1.heap.size) (k := .u8) rfl (.tmp 31) (.tmp 34) 22 rfl w3.heap.size 5 i0 (.int .u8 0) 1 Tryz.underlying22 hi hz0 hz1 hz2 rfl _ _ _ (by rfl) (G.a _ rfl).1 _ t _ (bs.take t) (by rfl) (RTK.out _ _ G.own) (by first | (simp; done) | (simp; omega)) (by decide) G.le ?_
          intro vAy2 y2 oA gA altA
          have G' := G.appA (ys := bs.take t) (by rw [hlt']; exact oA) gA altA
          clear oA gA altA G
          have G := G'
          clear G'
          refine hK.out _ _ (by exact trivial) (fun hHeld => ?_)
          clear hK K
          try simp only [Act.put, List.setIfInBounds_toArray, List.set_cons_zero, List.set_cons_succ]
          refine wpAnyH_ready (rs := [6]) (by kernel_rfl) (by simp) ?_
          refine AllReadyH.cons (by (simp only [List.getElem?_toArray, List.getElem?_cons_succ, List.getElem?_cons_zero]; rfl)) (fun K hK => ?_) AllReadyH.nil
          go_simp
          generalize hy : y2.alloc _ = y3
          replace G := G.mkI [0, 1, 128, 3] 4 rfl (by decide) rfl hy
          clear hy
          refine hK.out _ _ (by exact trivial) (fun hHeld => ?_)
          clear hK K
          try simp only [Act.put, List.setIfInBounds_toArray, List.set_cons_zero, List.set_cons_succ]
          refine wpAnyH_ready (rs := [7]) (by kernel_rfl) (by simp) ?_
          refine AllReadyH.cons (by (simp only [List.getElem?_toArray, List.getElem?_cons_succ, List.getElem?_cons_zero]; rfl)) (fun K hK => ?_) AllReadyH.nil
          go_simp
          refine (HI.out g y3 _ [0, 1, 128, 3] _ G.cur G.low hg (Rd.of_own (G.i _ rfl)) (by decide) (by decide) (fun a n c e => by cases e; have := G.gN; have := G.le; have := ((G.i _ rfl).lt _ rfl).1; dsimp only at this ⊢; omega)).mono ?_
          rintro e z7 ⟨⟨x1, rfl, hx1⟩, c7, g7⟩
          have hx1i : 0 ≤ x1 ∧ x1 ≤ 255 := by
            simp only [List.mem_cons, List.not_mem_nil, or_false] at hx1
            omega
          have hw1 : IntKind.u8.wrap x1 = x1 := by rw [IntWalk.u8_in _ (by omega)]
          have G7 := (G.draw c7 g7).dropI
          clear G c7 g7 hx1
          refine hK.out _ _ (by exact trivial) (fun hHeld => ?_)
          clear hK K
          try simp only [Act.put, List.setIfInBounds_toArray, List.set_cons_zero, List.set_cons_succ]
          refine tkH (i := 8) ?_
          refine wpAnyH_ready (rs := [9]) (by kernel_rfl) (by simp) ?_
          refine AllReadyH.cons (by (simp only [List.getElem?_toArray, List.getElem?_cons_succ, List.getElem?_cons_zero]; rfl)) (fun K hK => ?_) AllReadyH.nil
          go_simp
          generalize hy : z7.alloc _ = z9
          have G := G7.mkB x1 hy
          clear hy G7
          refine hK.out _ _ (by exact trivial) (fun hHeld => ?_)
          clear hK K
          try simp only [Act.put, List.setIfInBounds_toArray, List.set_cons_zero, List.set_cons_succ]
          refine wpAnyH_ready (rs := [13]) (by kernel_rfl) (by simp) ?_
          refine AllReadyH.cons (by (simp only [List.getElem?_toArray, List.getElem?_cons_succ, List.getElem?_cons_zero]; rfl)) (fun K hK => ?_) AllReadyH.nil
          refine step_app_rd (B := z9.heap.size) (k := .u8) rfl (.tmp 40) (.tmp 43) 22 rfl w3.heap.size 5 i0 (.int .u8 0) 1 Tryz.underlying22 hi hz0 hz1 hz2 rfl _ _ _ (by rfl) (G.b _ rfl).1 _ _ _ (bs.drop t) (by rfl) (RDR.out _ _ G.own) (by first | (simp; done) | (simp; omega)) (by decide) G.le ?_
          intro vB z13 oB gB altB
          have G' := G.appB (ys := bs.drop t) rfl (by rw [← hND.out]; exact oB) gB altB
          clear oB gB altB G
          have G := G'
          clear G'
          refine hK.out _ _ (by exact trivial) (fun hHeld => ?_)
          clear hK K
          try simp only [Act.put, List.setIfInBounds_toArray, List.set_cons_zero, List.set_cons_succ]
          obtain ⟨aB, cB, hvB⟩ := own_form (G.b _ rfl).1
          dsimp only at hvB
          subst hvB
          refine wpAnyH_ready (rs := [14]) (by kernel_rfl) (by simp) ?_
          refine AllReadyH.cons (by (simp only [List.getElem?_toArray, List.getElem?_cons_succ, List.getElem?_cons_zero]; rfl)) (fun K hK => ?_) AllReadyH.nil
          refine step_app_rd (B := z13.heap.size) (k := .u8) rfl (.tmp 35) (.tmp 44) 22 rfl w3.heap.size 5 i0 (.int .u8 0) 1 Tryz.underlying22 hi hz0 hz1 hz2 rfl _ _ _ (by rfl) (G.a _ rfl).1 _ _ _ ([x1] ++ bs.drop t) (by rfl) (Rd.of_own (G.b _ rfl).1) (by simp only [List.length_append, List.length_cons, List.length_nil, hlt', hld']; omega) (by decide) G.le ?_
          intro vC z14 oC gC altC
          have G' := G.appA (ys := [x1] ++ bs.drop t) oC gC altC
          have RF := Lib.hid (Rd.of_own (G'.a _ rfl).1)
          have LF := Lib.hid G'.low
          have hfb : ByB (([] ++ bs.take t) ++ ([x1] ++ bs.drop t)) := by
            refine ByB.append (by simpa using hbt) (ByB.append (fun y hy => ?_) hbd)
            simp only [List.mem_cons, List.not_mem_nil, or_false] at hy
            omega
          have hfl : (([] ++ bs.take t) ++ ([x1] ++ bs.drop t)).length ≤ 300001 := by
            simp only [List.length_append, List.length_cons, List.length_nil, hlt', hld']
            omega
          clear oC gC altC G G'
          refine hK.out _ _ (by exact trivial) (fun hHeld => ?_)
          clear hK K
          try simp only [Act.put, List.setIfInBounds_toArray, List.set_cons_zero, List.set_cons_succ]
          refine tkH (i := 15) ?_
          refine wpAnyH_done (by kernel_rfl) ?_ _
          go_wp2
          go_ret
          exact ⟨⟨_, rfl, _, RF.out, hfb, hfl⟩, LF.out⟩
        · skip
          go_simp
          generalize hy : y1.alloc _ = y4
          replace G := G.mkI [0, 1, 128, 3] 4 rfl (by decide) rfl hy
          clear hy
          refine hK.out _ _ (by exact trivial) (fun hHeld => ?_)
          clear hK K
          try simp only [Act.put, List.setIfInBounds_toArray, List.set_cons_zero, List.set_cons_succ]
          refine wpAnyH_ready (rs := [4]) (by kernel_rfl) (by simp) ?_
          refine AllReadyH.cons (by (simp only [List.getElem?_toArray, List.getElem?_cons_succ, List.getElem?_cons_zero]; rfl)) (fun K hK => ?_) AllReadyH.nil
          refine step_app_rd (B := y4.heap.size) (k := .u8) rfl (.tmp 31) (.tmp 34) 22 rfl w3.heap.size 5 i0 (.int .u8 0) 1 Tryz.underlying22 hi hz0 hz1 hz2 rfl _ _ _ (by rfl) (G.a _ rfl).1 _ t _ (bs.take t) (by rfl) (RTK.out _ _ G.own) (by first | (simp; done) | (simp; omega)) (by decide) G.le ?_
          intro vAy5 y5 oA gA altA
          have G' := G.appA (ys := bs.take t) (by rw [hlt']; exact oA) gA altA
          clear oA gA altA G
          have G := G'
          clear G'
          refine hK.out _ _ (by exact trivial) (fun hHeld => ?_)
          clear hK K
          try simp only [Act.put, List.setIfInBounds_toArray, List.set_cons_zero, List.set_cons_succ]
          refine wpAnyH_ready (rs := [7]) (by kernel_rfl) (by simp) ?_
          refine AllReadyH.cons (by (simp only [List.getElem?_toArray, List.getElem?_cons_succ, List.getElem?_cons_zero]; rfl)) (fun K hK => ?_) AllReadyH.nil
          go_simp
          refine (HI.out g y5 _ [0, 1, 128, 3] _ G.cur G.low hg (Rd.of_own (G.i _ rfl)) (by decide) (by decide) (fun a n c e => by cases e; have := G.gN; have := G.le; have := ((G.i _ rfl).lt _ rfl).1; dsimp only at this ⊢; omega)).mono ?_
          rintro e z7 ⟨⟨x1, rfl, hx1⟩, c7, g7⟩
          have hx1i : 0 ≤ x1 ∧ x1 ≤ 255 := by
            simp only [List.mem_cons, List.not_mem_nil, or_false] at hx1
            omega
          have hw1 : IntKind.u8.wrap x1 = x1 := by rw [IntWalk.u8_in _ (by omega)]
          have G7 := (G.draw c7 g7).dropI
          clear G c7 g7 hx1
          refine hK.out _ _ (by exact trivial) (fun hHeld => ?_)
          clear hK K
          try simp only [Act.put, List.setIfInBounds_toArray, List.set_cons_zero, List.set_cons_succ]
          refine tkH (i := 8) ?_
          refine wpAnyH_ready (rs := [9]) (by kernel_rfl) (by simp) ?_
          refine AllReadyH.cons (by (simp only [List.getElem?_toArray, List.getElem?_cons_succ, List.getElem?_cons_zero]; rfl)) (fun K hK => ?_) AllReadyH.nil
          go_simp
          generalize hy : z7.alloc _ = z9
          have G := G7.mkB x1 hy
          clear hy G7
          refine hK.out _ _ (by exact trivial) (fun hHeld => ?_)
          clear hK K
          try simp only [Act.put, List.setIfInBounds_toArray, List.set_cons_zero, List.set_cons_succ]
          refine wpAnyH_ready (rs := [13]) (by kernel_rfl) (by simp) ?_
          refine AllReadyH.cons (by (simp only [List.getElem?_toArray, List.getElem?_cons_succ, List.getElem?_cons_zero]; rfl)) (fun K hK => ?_) AllReadyH.nil
          refine step_app_rd (B := z9.heap.size) (k := .u8) rfl (.tmp 40) (.tmp 43) 22 rfl w3.heap.size 5 i0 (.int .u8 0) 1 Tryz.underlying22 hi hz0 hz1 hz2 rfl _ _ _ (by rfl) (G.b _ rfl).1 _ _ _ (bs.drop t) (by rfl) (RDR.out _ _ G.own) (by first | (simp; done) | (simp; omega)) (by decide) G.le ?_
          intro vB z13 oB gB altB
          have G' := G.appB (ys := bs.drop t) rfl (by rw [← hND.out]; exact oB) gB altB
          clear oB gB altB G
          have G := G'
          clear G'
          refine hK.out _ _ (by exact trivial) (fun hHeld => ?_)
          clear hK K
          try simp only [Act.put, List.setIfInBounds_toArray, List.set_cons_zero, List.set_cons_succ]
          obtain ⟨aB, cB, hvB⟩ := own_form (G.b _ rfl).1
          dsimp only at hvB
          subst hvB
          refine wpAnyH_ready (rs := [14]) (by kernel_rfl) (by simp) ?_
          refine AllReadyH.cons (by (simp only [List.getElem?_toArray, List.getElem?_cons_succ, List.getElem?_cons_zero]; rfl)) (fun K hK => ?_) AllReadyH.nil
          refine step_app_rd (B := z13.heap.size) (k := .u8) rfl (.tmp 35) (.tmp 44) 22 rfl w3.heap.size 5 i0 (.int .u8 0) 1 Tryz.underlying22 hi hz0 hz1 hz2 rfl _ _ _ (by rfl) (G.a _ rfl).1 _ _ _ ([x1] ++ bs.drop t) (by rfl) (Rd.of_own (G.b _ rfl).1) (by simp only [List.length_append, List.length_cons, List.length_nil, hlt', hld']; omega) (by decide) G.le ?_
          intro vC z14 oC gC altC
          have G' := G.appA (ys := [x1] ++ bs.drop t) oC gC altC
          have RF := Lib.hid (Rd.of_own (G'.a _ rfl).1)
          have LF := Lib.hid G'.low
          have hfb : ByB (([] ++ bs.take t) ++ ([x1] ++ bs.drop t)) := by
            refine ByB.append (by simpa using hbt) (ByB.append (fun y hy => ?_) hbd)
            simp only [List.mem_cons, List.not_mem_nil, or_false] at hy
            omega
          have hfl : (([] ++ bs.take t) ++ ([x1] ++ bs.drop t)).length ≤ 300001 := by
            simp only [List.length_append, List.length_cons, List.length_nil, hlt', hld']
            omega
          clear oC gC altC G G'
          refine hK.out _ _ (by exact trivial) (fun hHeld => ?_)
          clear hK K
          try simp only [Act.put, List.setIfInBounds_toArray, List.set_cons_zero, List.set_cons_succ]
          refine tkH (i := 15) ?_
          refine wpAnyH_done (by kernel_rfl) ?_ _
          go_wp2
          go_ret
          exact ⟨⟨_, rfl, _, RF.out, hfb, hfl⟩, LF.out⟩
      · skip
        go_simp
        generalize hy : y0.alloc _ = y6
        replace G := G.mkI [0, 1, 128, 3] 4 rfl (by decide) rfl hy
        clear hy
        refine hK.out _ _ (by exact trivial) (fun hHeld => ?_)
        clear hK K
        try simp only [Act.put, List.setIfInBounds_toArray, List.set_cons_zero, List.set_cons_succ]
        refine wpAnyH_ready (rs := [0]) (by kernel_rfl) (by simp) ?_
        refine AllReadyH.cons (by (simp only [List.getElem?_toArray, List.getElem?_cons_succ, List.getElem?_cons_zero]; rfl)) (fun K hK => ?_) AllReadyH.nil
        go_simp
        generalize hy : y6.alloc _ = y7
        replace G := G.mkA hy
        clear hy
        refine hK.out _ _ (by exact trivial) (fun hHeld => ?_)
        clear hK K
        try simp only [Act.put, List.setIfInBounds_toArray, List.set_cons_zero, List.set_cons_succ]
        refine wpAnyH_ready (rs := [4]) (by kernel_rfl) (by simp) ?_
        refine AllReadyH.cons (by (simp only [List.getElem?_toArray, List.getElem?_cons_succ, List.getElem?_cons_zero]; rfl)) (fun K hK => ?_) AllReadyH.nil
        refine step_app_rd (B := y7.heap.size) (k := .u8) rfl (.tmp 31) (.tmp 34) 22 rfl w3.heap.size 5 i0 (.int .u8 0) 1 Tryz.underlying22 hi hz0 hz1 hz2 rfl _ _ _ (by rfl) (G.a _ rfl).1 _ t _ (bs.take t) (by rfl) (RTK.out _ _ G.own) (by first | (simp; done) | (simp; omega)) (by decide) G.le ?_
        intro vAy8 y8 oA gA altA
        have G' := G.appA (ys := bs.take t) (by rw [hlt']; exact oA) gA altA
        clear oA gA altA G
        have G := G'
        clear G'
        refine hK.out _ _ (by exact trivial) (fun hHeld => ?_)
        clear hK K
        try simp only [Act.put, List.setIfInBounds_toArray, List.set_cons_zero, List.set_cons_succ]
        refine wpAnyH_ready (rs := [7]) (by kernel_rfl) (by simp) ?_
        refine AllReadyH.cons (by (simp only [List.getElem?_toArray, List.getElem?_cons_succ, List.getElem?_cons_zero]; rfl)) (fun K hK => ?_) AllReadyH.nil
        go_simp
        refine (HI.out g y8 _ [0, 1, 128, 3] _ G.cur G.low hg (Rd.of_own (G.i _ rfl)) (by decide) (by decide) (fun a n c e => by cases e; have := G.gN; have := G.le; have := ((G.i _ rfl).lt _ rfl).1; dsimp only at this ⊢; omega)).mono ?_
        rintro e z7 ⟨⟨x1, rfl, hx1⟩, c7, g7⟩
        have hx1i : 0 ≤ x1 ∧ x1 ≤ 255 := by
          simp only [List.mem_cons, List.not_mem_nil, or_false] at hx1
          omega
        have hw1 : IntKind.u8.wrap x1 = x1 := by rw [IntWalk.u8_in _ (by omega)]
        have G7 := (G.draw c7 g7).dropI
        clear G c7 g7 hx1
        refine hK.out _ _ (by exact trivial) (fun hHeld => ?_)
        clear hK K
        try simp only [Act.put, List.setIfInBounds_toArray, List.set_cons_zero, List.set_cons_succ]
        refine tkH (i := 8) ?_
        refine wpAnyH_ready (rs := [9]) (by kernel_rfl) (by simp) ?_
        refine AllReadyH.cons (by (simp only [List.getElem?_toArray, List.getElem?_cons_succ, List.getElem?_cons_zero]; rfl)) (fun K hK => ?_) AllReadyH.nil
        go_simp
        generalize hy : z7.alloc _ = z9
        have G := G7.mkB x1 hy
        clear hy G7
        refine hK.out _ _ (by exact trivial) (fun hHeld => ?_)
        clear hK K
        try simp only [Act.put, List.setIfInBounds_toArray, List.set_cons_zero, List.set_cons_succ]
        refine wpAnyH_ready (rs := [13]) (by kernel_rfl) (by simp) ?_
        refine AllReadyH.cons (by (simp only [List.getElem?_toArray, List.getElem?_cons_succ, List.getElem?_cons_zero]; rfl)) (fun K hK => ?_) AllReadyH.nil
        refine step_app_rd (B := z9.heap.size) (k := .u8) rfl (.tmp 40) (.tmp 43) 22 rfl w3.heap.size 5 i0 (.int .u8 0) 1 Tryz.underlying22 hi hz0 hz1 hz2 rfl _ _ _ (by rfl) (G.b _ rfl).1 _ _ _ (bs.drop t) (by rfl) (RDR.out _ _ G.own) (by first | (simp; done) | (simp; omega)) (by decide) G.le ?_
        intro vB z13 oB gB altB
        have G' := G.appB (ys := bs.drop t) rfl (by rw [← hND.out]; exact oB) gB altB
        clear oB gB altB G
        have G := G'
        clear G'
        refine hK.out _ _ (by exact trivial) (fun hHeld => ?_)
        clear hK K
        try simp only [Act.put, List.setIfInBounds_toArray, List.set_cons_zero, List.set_cons_succ]
        obtain ⟨aB, cB, hvB⟩ := own_form (G.b _ rfl).1
        dsimp only at hvB
        subst hvB
        refine wpAnyH_ready (rs := [14]) (by kernel_rfl) (by simp) ?_
        refine AllReadyH.cons (by (simp only [List.getElem?_toArray, List.getElem?_cons_succ, List.getElem?_cons_zero]; rfl)) (fun K hK => ?_) AllReadyH.nil
        refine step_app_rd (B := z13.heap.size) (k := .u8) rfl (.tmp 35) (.tmp 44) 22 rfl w3.heap.size 5 i0 (.int .u8 0) 1 Tryz.underlying22 hi hz0 hz1 hz2 rfl _ _ _ (by rfl) (G.a _ rfl).1 _ _ _ ([x1] ++ bs.drop t) (by rfl) (Rd.of_own (G.b _ rfl).1) (by simp only [List.length_append, List.length_cons, List.length_nil, hlt', hld']; omega) (by decide) G.le ?_
        intro vC z14 oC gC altC
        have G' := G.appA (ys := [x1] ++ bs.drop t) oC gC altC
        have RF := Lib.hid (Rd.of_own (G'.a _ rfl).1)
        have LF := Lib.hid G'.low
        have hfb : ByB (([] ++ bs.take t) ++ ([x1] ++ bs.drop t)) := by
          refine ByB.append (by simpa using hbt) (ByB.append (fun y hy => ?_) hbd)
          simp only [List.mem_cons, List.not_mem_nil, or_false] at hy
          omega
        have hfl : (([] ++ bs.take t) ++ ([x1] ++ bs.drop t)).length ≤ 300001 := by
          simp only [List.length_append, List.length_cons, List.length_nil, hlt', hld']
          omega
        clear oC gC altC G G'
        refine hK.out _ _ (by exact trivial) (fun hHeld => ?_)
        clear hK K
        try simp only [Act.put, List.setIfInBounds_toArray, List.set_cons_zero, List.set_cons_succ]
        refine tkH (i := 15) ?_
        refine wpAnyH_done (by kernel_rfl) ?_ _
        go_wp2
        go_ret
        exact ⟨⟨_, rfl, _, RF.out, hfb, hfl⟩, LF.out⟩
  · have n0 : ¬ r = 0 := by omega
    have n1 : ¬ r = 1 := by omega
    have RT := Lib.hid (Rd.of_own G6.own)
    have LL := Lib.hid G6.low
    have hlt' : bs.length ≤ 300001 := by omega
    clear G6
    go_wp2
    go_ret
    exact ⟨⟨_, _, rfl, RT.out, hbb, hlt'⟩, LL.out⟩
end Go.Proofs.YtdmkhipimcjipaaGreat
end
