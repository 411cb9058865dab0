import Derived.Test.YtmcoidnonmmpjaaHeapL
import Derived.Test.YtmcoidnonmmpjaaInsP
import Derived.Test.YtmcoidnonmmpjaaBlockAt2
/- A heap that is moved is seen as it was: the plain law. Nothing of the program is named here. -/
namespace Go.Proofs.Ytmcoidnonmmpjaa
open Go.RowKit
set_option linter.unusedVariables false

/-- a block in the midst of words. -/
theorem mid_block {X ks Y : List Int} {x : Int} (hk : hK x = ks.length) : (X ++ (x :: ks ++ Y)).getD X.length 0 = x ∧ kidsAt (X ++ (x :: ks ++ Y)) X.length = ks := by
  have h0 : (X ++ (x :: ks ++ Y)).getD X.length 0 = x := by
    rw [List.getD_eq_getElem?_getD, List.getElem?_append_right (Nat.le_refl _), Nat.sub_self]
    rfl
  refine ⟨h0, ?_⟩
  unfold kidsAt
  rw [h0, hk, List.drop_append, List.drop_eq_nil_of_le (by omega), List.nil_append, show X.length + 1 - X.length = 1 by omega, List.cons_append, List.drop_succ_cons, List.drop_zero, List.take_left]

/-- a heap that is right, its roots, and what is come to. -/
structure Mvg (ws rs : List Int) (h b n : Nat) (ps o : List Nat) : Prop where
  right : Right ws h b n ps
  roots : rs.all (wordIn ps) = true
  ord : o = orderOf ws rs
theorem Mvg.ok {ws rs : List Int} {h b n : Nat} {ps o : List Nat} (M : Mvg ws rs h b n ps o) : Ordered ps o := by rw [M.ord]; exact order_ok M.right M.roots
theorem Mvg.at_ {ws rs : List Int} {h b n : Nat} {ps o : List Nat} (M : Mvg ws rs h b n ps o) {p : Nat} (hp : p ∈ o) : b ≤ p ∧ p < n ∧ hOk (ws.getD p 0) = true ∧ p + 1 + hK (ws.getD p 0) ≤ n ∧ (kidsAt ws p).all (wordIn ps) = true := M.right.at_ (M.ok.2 p hp)
theorem Mvg.klen {ws rs : List Int} {h b n : Nat} {ps o : List Nat} (M : Mvg ws rs h b n ps o) {p : Nat} (hp : p ∈ o) : (kidsAt ws p).length = hK (ws.getD p 0) := by
  have h1 := (M.at_ hp).2.2.2.1
  have h2 := M.right.n_le.1
  exact kidsAt_len (by omega)
/-- where blocks come to lie. -/
abbrev qAt (ws : List Int) (h b : Nat) (o : List Nat) (p : Nat) : Nat := newAt ws (h - b) o p
abbrev tsOf (ws : List Int) (h b : Nat) (o : List Nat) : List Int := lay (h - b) ws.length (mvd ws (h - b) o o)
theorem idx_getD {o : List Nat} (ho : o.Nodup) {k : Nat} (hk : k < o.length) : o.idxOf (o.getD k 0) = k := by
  rw [List.getD_eq_getElem?_getD, List.getElem?_eq_getElem hk, Option.getD_some]
  exact ho.idxOf_getElem k hk
theorem Mvg.q {ws rs : List Int} {h b n : Nat} {ps o : List Nat} (M : Mvg ws rs h b n ps o) {k : Nat} (hk : k < o.length) : qAt ws h b o (o.getD k 0) = (h - b) + (raw ws (o.take k)).length := by
  unfold qAt newAt
  rw [idx_getD M.ok.1 hk]
theorem mvd_app (ws : List Int) (b : Nat) (o x y : List Nat) : mvd ws b o (x ++ y) = mvd ws b o x ++ mvd ws b o y := by simp [mvd]
theorem Mvg.block {ws rs : List Int} {h b n : Nat} {ps o : List Nat} (M : Mvg ws rs h b n ps o) {p : Nat} (hp : p ∈ o) :
    (tsOf ws h b o).getD (qAt ws h b o p) 0 = ws.getD p 0 ∧ kidsAt (tsOf ws h b o) (qAt ws h b o p) = (kidsAt ws p).map (mv ws (h - b) o) := by
  obtain ⟨k, hk, rfl⟩ := List.mem_iff_getElem.1 hp
  have e : o[k] = o.getD k 0 := by rw [List.getD_eq_getElem?_getD, List.getElem?_eq_getElem hk]; rfl
  have hq := M.q hk
  rw [← e] at hq
  rw [hq]
  have hl : (List.replicate (h - b) (0 : Int) ++ mvd ws (h - b) o (o.take k)).length = (h - b) + (raw ws (o.take k)).length := by rw [List.length_append, List.length_replicate, mvd_len]
  have ht : tsOf ws h b o = (List.replicate (h - b) (0 : Int) ++ mvd ws (h - b) o (o.take k)) ++ ((ws.getD o[k] 0 :: (kidsAt ws o[k]).map (mv ws (h - b) o)) ++ (mvd ws (h - b) o (o.drop (k + 1)) ++ List.replicate (ws.length - (h - b) - (mvd ws (h - b) o o).length) 0)) := by
    unfold tsOf lay
    have e2 : mvd ws (h - b) o o = mvd ws (h - b) o (o.take k) ++ (mblk ws (h - b) o o[k] ++ mvd ws (h - b) o (o.drop (k + 1))) := by
      have : o = o.take k ++ ([o[k]] ++ o.drop (k + 1)) := by rw [List.singleton_append, ← List.drop_eq_getElem_cons hk, List.take_append_drop]
      have e3 : mvd ws (h - b) o (o.take k ++ ([o[k]] ++ o.drop (k + 1))) = mvd ws (h - b) o (o.take k) ++ (mblk ws (h - b) o o[k] ++ mvd ws (h - b) o (o.drop (k + 1))) := by
        rw [mvd_app, mvd_app]
        congr 2
        simp [mvd]
      rw [← this] at e3
      exact e3
    conv => lhs; rw [show mvd ws (h - b) o o ++ List.replicate (ws.length - (h - b) - (mvd ws (h - b) o o).length) 0 = (mvd ws (h - b) o (o.take k) ++ (mblk ws (h - b) o o[k] ++ mvd ws (h - b) o (o.drop (k + 1)))) ++ List.replicate (ws.length - (h - b) - (mvd ws (h - b) o o).length) 0 from by rw [← e2]]
    simp only [mblk, List.append_assoc, List.cons_append]
  have hm := mid_block (X := List.replicate (h - b) (0 : Int) ++ mvd ws (h - b) o (o.take k)) (ks := (kidsAt ws o[k]).map (mv ws (h - b) o)) (Y := mvd ws (h - b) o (o.drop (k + 1)) ++ List.replicate (ws.length - (h - b) - (mvd ws (h - b) o o).length) 0) (x := ws.getD o[k] 0) (by rw [List.length_map, M.klen hp])
  rw [← ht, hl] at hm
  exact hm
theorem raw_split (ws : List Int) (o : List Nat) (k : Nat) : (raw ws o).length = (raw ws (o.take k)).length + (raw ws (o.drop k)).length := by
  conv => lhs; rw [← List.take_append_drop k o, raw_append, List.length_append]
theorem Mvg.places {ws rs : List Int} {h b n : Nat} {ps o : List Nat} (M : Mvg ws rs h b n ps o) :
    ∀ (m k f : Nat), k + m = o.length → (raw ws (o.drop k)).length ≤ f → places (tsOf ws h b o) ((h - b) + (raw ws o).length) f ((h - b) + (raw ws (o.take k)).length) = some ((o.drop k).map (qAt ws h b o)) := by
  intro m
  induction m with
  | zero =>
    intro k f hk hf
    rw [show o.take k = o by rw [List.take_of_length_le]; omega, show o.drop k = [] by rw [List.drop_eq_nil_of_le]; omega, places_end (by omega)]
    rfl
  | succ m ih =>
    intro k f hk hf
    have hkl : k < o.length := by omega
    have hp : o[k] ∈ o := List.getElem_mem hkl
    have e : o[k] = o.getD k 0 := by rw [List.getD_eq_getElem?_getD, List.getElem?_eq_getElem hkl]; rfl
    have hq := M.q hkl
    rw [← e] at hq
    obtain ⟨b1, b2⟩ := M.block hp
    rw [hq] at b1
    have hd : o.drop k = o[k] :: o.drop (k + 1) := List.drop_eq_getElem_cons hkl
    have hbl : (blk ws o[k]).length = 1 + hK (ws.getD o[k] 0) := blk_len (by have h1 := (M.at_ hp).2.2.2.1; have h2 := M.right.n_le.1; omega)
    have hs := raw_split ws o k
    have hs1 := raw_split ws o (k + 1)
    have ht : (raw ws (o.take (k + 1))).length = (raw ws (o.take k)).length + (1 + hK (ws.getD o[k] 0)) := by
      rw [← List.take_append_getElem hkl, raw_snoc, List.length_append, hbl]
    have hfd : (raw ws (o.drop k)).length = (1 + hK (ws.getD o[k] 0)) + (raw ws (o.drop (k + 1))).length := by omega
    obtain ⟨f, rfl⟩ : ∃ g, f = g + 1 := ⟨f - 1, by omega⟩
    rw [places_go (by omega) (by rw [b1]; exact (M.at_ hp).2.2.1) (by rw [b1]; omega), b1, hd, List.map_cons, hq]
    have := ih (k + 1) f (by omega) (by omega)
    rw [ht, show (h - b) + ((raw ws (o.take k)).length + (1 + hK (ws.getD o[k] 0))) = (h - b) + (raw ws (o.take k)).length + 1 + hK (ws.getD o[k] 0) by omega] at this
    rw [this]
    rfl
abbrev psOf (ws : List Int) (h b : Nat) (o : List Nat) : List Nat := o.map (qAt ws h b o)
theorem Mvg.some_ {ws rs : List Int} {h b n : Nat} {ps o : List Nat} (M : Mvg ws rs h b n ps o) : placesOf (tsOf ws h b o) (h - b) ((h - b) + (raw ws o).length) = some (psOf ws h b o) := by
  have := M.places o.length 0 ((h - b) + (raw ws o).length - (h - b)) (by omega) (by simp)
  simpa [placesOf, raw_nil] using this
theorem Mvg.word {ws rs : List Int} {h b n : Nat} {ps o : List Nat} (M : Mvg ws rs h b n ps o) {x : Int} (hx : wordIn ps x = true) (hc : x % 2 = 0 → (x / 2).toNat ∈ o) : wordIn (psOf ws h b o) (mv ws (h - b) o x) = true := by
  unfold mv
  split
  · rename_i he
    unfold wordIn
    rw [if_pos (by omega), decide_eq_true_eq]
    exact ⟨_, List.mem_map_of_mem (hc he), by show ((newAt ws (h - b) o (x / 2).toNat : Nat) : Int) = _; omega⟩
  · rename_i he
    unfold wordIn at hx ⊢
    rw [if_neg he] at hx ⊢
    exact hx
theorem Mvg.words {ws rs : List Int} {h b n : Nat} {ps o : List Nat} (M : Mvg ws rs h b n ps o) {xs : List Int} (hx : xs.all (wordIn ps) = true) (hc : Cl o xs) : (xs.map (mv ws (h - b) o)).all (wordIn (psOf ws h b o)) = true := by
  rw [List.all_eq_true] at hx ⊢
  intro y hy
  obtain ⟨x, hxm, rfl⟩ := List.mem_map.1 hy
  exact M.word (hx x hxm) (hc x hxm)
theorem Mvg.kcl {ws rs : List Int} {h b n : Nat} {ps o : List Nat} (M : Mvg ws rs h b n ps o) {p : Nat} (hp : p ∈ o) : Cl o (kidsAt ws p) := by
  have := M.ord
  subst this
  exact order_kids M.right M.roots hp
theorem Mvg.rcl {ws rs : List Int} {h b n : Nat} {ps o : List Nat} (M : Mvg ws rs h b n ps o) : Cl o rs := by
  have := M.ord
  subst this
  exact order_roots ws rs
theorem Mvg.tlen {ws rs : List Int} {h b n : Nat} {ps o : List Nat} (M : Mvg ws rs h b n ps o) : (tsOf ws h b o).length = ws.length := by
  refine lay_len ?_
  rw [mvd_len]
  have h1 := M.right.raw_le M.ok
  have h2 := M.right.frame.len
  have h3 := M.right.frame.base
  omega
/-- the moved heap is right. -/
theorem Mvg.rightT {ws rs : List Int} {h b n : Nat} {ps o : List Nat} (M : Mvg ws rs h b n ps o) : Right (tsOf ws h b o) h (h - b) ((h - b) + (raw ws o).length) (psOf ws h b o) := by
  have h1 := M.right.raw_le M.ok
  have F := M.right.frame
  have hb := F.base
  refine ⟨⟨F.h0, F.h1, by rw [M.tlen]; exact F.len, by omega, by omega, by omega⟩, M.some_, ?_⟩
  unfold blocksFit
  rw [List.all_eq_true]
  intro q hq
  obtain ⟨p, hp, rfl⟩ := List.mem_map.1 hq
  rw [(M.block hp).2]
  exact M.words (M.at_ hp).2.2.2.2 (M.kcl hp)
theorem Mvg.inj {ws rs : List Int} {h b n : Nat} {ps o : List Nat} (M : Mvg ws rs h b n ps o) {p p' : Nat} (hp : p ∈ o) (hp' : p' ∈ o) (he : qAt ws h b o p = qAt ws h b o p') : p = p' := by
  have hs := M.rightT.sorted
  obtain ⟨i, hi, rfl⟩ := List.mem_iff_getElem.1 hp
  obtain ⟨j, hj, rfl⟩ := List.mem_iff_getElem.1 hp'
  rw [List.pairwise_iff_getElem] at hs
  rcases Nat.lt_trichotomy i j with hij | hij | hij
  · have := hs i j (by simpa using hi) (by simpa using hj) hij
    simp only [List.getElem_map] at this
    omega
  · subst hij; rfl
  · have := hs j i (by simpa using hj) (by simpa using hi) hij
    simp only [List.getElem_map] at this
    omega
/-- what is seen, is seen alike. -/
theorem Mvg.seeW {ws rs : List Int} {h b n : Nat} {ps o : List Nat} (M : Mvg ws rs h b n ps o) {S : List Nat} {x : Int} (hS : ∀ p ∈ S, p ∈ o) (hc : x % 2 = 0 → (x / 2).toNat ∈ o) :
    seeW (S.map (qAt ws h b o)) (mv ws (h - b) o x) = (seeW S x).map (qAt ws h b o) ∧ ∀ p ∈ seeW S x, p ∈ o := by
  unfold Go.Proofs.Ytmcoidnonmmpjaa.seeW mv
  split
  · rename_i he
    have hm := hc he
    rw [if_pos (by omega), show (2 * ((newAt ws (h - b) o (x / 2).toNat : Nat) : Int) / 2).toNat = qAt ws h b o (x / 2).toNat by show _ = newAt ws (h - b) o (x / 2).toNat; omega]
    by_cases hi : (x / 2).toNat ∈ S
    · rw [if_pos (List.mem_map_of_mem hi), if_pos hi]
      exact ⟨rfl, hS⟩
    · rw [if_neg, if_neg hi]
      · refine ⟨by simp, fun p hp => ?_⟩
        rcases List.mem_append.1 hp with hp | hp
        · exact hS p hp
        · rw [List.mem_singleton.1 hp]; exact hm
      · intro hh
        obtain ⟨p, hp, hpe⟩ := List.mem_map.1 hh
        have := M.inj (hS p hp) hm hpe
        exact hi (this ▸ hp)
  · rename_i he
    exact ⟨rfl, hS⟩
theorem Mvg.seeL {ws rs : List Int} {h b n : Nat} {ps o : List Nat} (M : Mvg ws rs h b n ps o) : ∀ (xs : List Int) (S : List Nat), (∀ p ∈ S, p ∈ o) → Cl o xs →
    seeL (S.map (qAt ws h b o)) (xs.map (mv ws (h - b) o)) = (seeL S xs).map (qAt ws h b o) ∧ ∀ p ∈ seeL S xs, p ∈ o := by
  intro xs
  induction xs with
  | nil => intro S hS _; exact ⟨rfl, hS⟩
  | cons x xs ih =>
    intro S hS hc
    obtain ⟨h1, h2⟩ := M.seeW hS (hc x (List.mem_cons_self ..))
    have := ih (Go.Proofs.Ytmcoidnonmmpjaa.seeW S x) h2 (fun y hy => hc y (List.mem_cons_of_mem _ hy))
    rw [← h1] at this
    exact this
theorem Mvg.bfs {ws rs : List Int} {h b n : Nat} {ps o : List Nat} (M : Mvg ws rs h b n ps o) : ∀ (f i : Nat) (S : List Nat), (∀ p ∈ S, p ∈ o) → bfs (tsOf ws h b o) f i (S.map (qAt ws h b o)) = (bfs ws f i S).map (qAt ws h b o) := by
  intro f
  induction f with
  | zero => intro i S _; rfl
  | succ f ih =>
    intro i S hS
    by_cases hi : i < S.length
    · have hp : S.getD i 0 ∈ o := hS _ (get_mem hi)
      have e : (S.map (qAt ws h b o)).getD i 0 = qAt ws h b o (S.getD i 0) := by
        rw [List.getD_eq_getElem?_getD, List.getD_eq_getElem?_getD, List.getElem?_map, List.getElem?_eq_getElem hi]; rfl
      obtain ⟨h1, h2⟩ := M.seeL (kidsAt ws (S.getD i 0)) S hS (M.kcl hp)
      rw [bfs_go hi, bfs_go (by simpa using hi), e, (M.block hp).2, h1]
      exact ih (i + 1) _ h2
    · rw [bfs_end hi, bfs_end (by simpa using hi)]
theorem Mvg.order {ws rs : List Int} {h b n : Nat} {ps o : List Nat} (M : Mvg ws rs h b n ps o) : orderOf (tsOf ws h b o) (rs.map (mv ws (h - b) o)) = psOf ws h b o := by
  obtain ⟨h1, h2⟩ := M.seeL rs [] (by simp) M.rcl
  unfold orderOf
  rw [M.tlen]
  have := M.bfs ws.length 0 (Go.Proofs.Ytmcoidnonmmpjaa.seeL [] rs) h2
  rw [← h1] at this
  refine this.trans ?_
  have e := M.ord
  unfold orderOf at e
  rw [← e]
theorem Mvg.mvgT {ws rs : List Int} {h b n : Nat} {ps o : List Nat} (M : Mvg ws rs h b n ps o) : Mvg (tsOf ws h b o) (rs.map (mv ws (h - b) o)) h (h - b) ((h - b) + (raw ws o).length) (psOf ws h b o) (psOf ws h b o) :=
  ⟨M.rightT, M.words M.roots M.rcl, M.order.symm⟩
theorem Mvg.idx {ws rs : List Int} {h b n : Nat} {ps o : List Nat} (M : Mvg ws rs h b n ps o) {p : Nat} (hp : p ∈ o) : ∀ l : List Nat, (∀ y ∈ l, y ∈ o) → (l.map (qAt ws h b o)).idxOf (qAt ws h b o p) = l.idxOf p := by
  intro l
  induction l with
  | nil => intro _; rfl
  | cons y l ih =>
    intro hl
    rw [List.map_cons, List.idxOf_cons, List.idxOf_cons, ih (fun z hz => hl z (List.mem_cons_of_mem _ hz))]
    by_cases hy : y = p
    · subst hy; simp
    · have : ¬ qAt ws h b o y = qAt ws h b o p := fun he => hy (M.inj (hl y (List.mem_cons_self ..)) hp he)
      have e1 : (qAt ws h b o y == qAt ws h b o p) = false := by simpa using this
      have e2 : (y == p) = false := by simpa using hy
      rw [e1, e2]
theorem Mvg.numOf {ws rs : List Int} {h b n : Nat} {ps o : List Nat} (M : Mvg ws rs h b n ps o) {p : Nat} (hp : p ∈ o) : numOf (psOf ws h b o) (qAt ws h b o p) = numOf o p := by
  unfold Go.Proofs.Ytmcoidnonmmpjaa.numOf
  rw [if_pos (List.mem_map_of_mem hp), if_pos hp, M.idx hp o (fun _ h => h)]
theorem Mvg.wordTxt {ws rs : List Int} {h b n : Nat} {ps o : List Nat} (M : Mvg ws rs h b n ps o) {x : Int} (hc : x % 2 = 0 → (x / 2).toNat ∈ o) : wordTxt (psOf ws h b o) (mv ws (h - b) o x) = wordTxt o x := by
  unfold Go.Proofs.Ytmcoidnonmmpjaa.wordTxt mv
  split
  · rename_i he
    rw [if_pos (by omega), show (2 * ((newAt ws (h - b) o (x / 2).toNat : Nat) : Int) / 2).toNat = qAt ws h b o (x / 2).toNat by show _ = newAt ws (h - b) o (x / 2).toNat; omega, M.numOf (hc he)]
  · rfl
theorem Mvg.wordsTxt {ws rs : List Int} {h b n : Nat} {ps o : List Nat} (M : Mvg ws rs h b n ps o) : ∀ (xs : List Int), Cl o xs → wordsTxt (psOf ws h b o) (xs.map (mv ws (h - b) o)) = wordsTxt o xs := by
  intro xs
  induction xs with
  | nil => intro _; rfl
  | cons x xs ih =>
    intro hc
    have h1 := M.wordTxt (hc x (List.mem_cons_self ..))
    have h2 := ih (fun y hy => hc y (List.mem_cons_of_mem _ hy))
    unfold Go.Proofs.Ytmcoidnonmmpjaa.wordsTxt at h2 ⊢
    rw [List.map_cons, List.flatMap_cons, List.flatMap_cons, h1, h2]
/-- the moved heap is shown as it was. -/
theorem Mvg.shapeL {ws rs : List Int} {h b n : Nat} {ps o : List Nat} (M : Mvg ws rs h b n ps o) : shapeL (tsOf ws h b o) (psOf ws h b o) (rs.map (mv ws (h - b) o)) = shapeL ws o rs := by
  unfold Go.Proofs.Ytmcoidnonmmpjaa.shapeL
  rw [M.wordsTxt rs M.rcl]
  congr 1
  have key : ∀ l : List Nat, (∀ p ∈ l, p ∈ o) → (l.map (qAt ws h b o)).flatMap (blockTxt (tsOf ws h b o) (psOf ws h b o)) = l.flatMap (blockTxt ws o) := by
    intro l
    induction l with
    | nil => intro _; rfl
    | cons p l ih =>
      intro hl
      have hp := hl p (List.mem_cons_self ..)
      rw [List.map_cons, List.flatMap_cons, List.flatMap_cons, ih (fun y hy => hl y (List.mem_cons_of_mem _ hy))]
      congr 1
      unfold blockTxt
      obtain ⟨b1, b2⟩ := M.block hp
      rw [b1, b2, M.wordsTxt _ (M.kcl hp)]
  exact key o (fun _ h => h)
theorem Mvg.rawlen {ws rs : List Int} {h b n : Nat} {ps o : List Nat} (M : Mvg ws rs h b n ps o) : (raw (tsOf ws h b o) (psOf ws h b o)).length = (raw ws o).length := by
  have key : ∀ l : List Nat, (∀ p ∈ l, p ∈ o) → (raw (tsOf ws h b o) (l.map (qAt ws h b o))).length = (raw ws l).length := by
    intro l
    induction l with
    | nil => intro _; rfl
    | cons p l ih =>
      intro hl
      have hp := hl p (List.mem_cons_self ..)
      have h2 := ih (fun y hy => hl y (List.mem_cons_of_mem _ hy))
      unfold raw at h2 ⊢
      rw [List.map_cons, List.flatMap_cons, List.flatMap_cons, List.length_append, List.length_append, h2]
      congr 1
      unfold blk
      rw [(M.block hp).2]
      simp
  exact key o (fun _ h => h)
theorem Mvg.rightB {ws rs : List Int} {h b n : Nat} {ps o : List Nat} (M : Mvg ws rs h b n ps o) : heapOk ws h b n = true ∧ rightOf ws h b n rs = true := by
  have hF : heapFrame ws h b n = true := by
    unfold heapFrame
    rw [decide_eq_true_eq]
    have F := M.right.frame
    have f1 := F.h0
    have f2 := F.h1
    have f3 := F.len
    have f4 := F.base
    have f5 := F.n0
    have f6 := F.n1
    omega
  have h1 : heapOk ws h b n = true := by rw [heapOk_places hF M.right.some]; exact M.right.fit
  exact ⟨h1, by rw [rightOf_at h1 M.right.some]; exact M.roots⟩
theorem Mvg.shape {ws rs : List Int} {h b n : Nat} {ps o : List Nat} (M : Mvg ws rs h b n ps o) : shapeOf ws h b n rs = st (Go.Proofs.Ytmcoidnonmmpjaa.shapeL ws o rs) := by rw [shapeOf_yes M.rightB.2, M.ord]

/-- how many words some blocks take. -/
def sizeOf_ (ws : List Int) (l : List Int) : Nat := (l.map fun x => 1 + (kidsAt ws x.toNat).length).sum
theorem sizeOf_snoc (ws : List Int) (l : List Int) (x : Int) : sizeOf_ ws (l ++ [x]) = sizeOf_ ws l + (1 + (kidsAt ws x.toNat).length) := by simp [sizeOf_]
theorem sizeOf_nums (ws : List Int) : ∀ l : List Nat, sizeOf_ ws (nums l) = (raw ws l).length := by
  intro l
  induction l with
  | nil => rfl
  | cons p l ih =>
    unfold sizeOf_ nums raw at ih ⊢
    rw [List.map_cons, List.map_cons, List.sum_cons, ih, List.flatMap_cons, List.length_append]
    simp [blk]
    omega
theorem sizeOf_ins (ws : List Int) (x : Int) : ∀ l : List Int, x ∉ l → sizeOf_ ws (insI x l) = 1 + (kidsAt ws x.toNat).length + sizeOf_ ws l := by
  intro l
  induction l with
  | nil => intro _; simp [sizeOf_, insI]
  | cons y l ih =>
    intro h
    have h1 : x ∉ l := fun hh => h (List.mem_cons_of_mem _ hh)
    have h2 : ¬ y = x := fun hh => h (by rw [hh]; exact List.mem_cons_self ..)
    have h3 := ih h1
    unfold insI
    unfold sizeOf_ at h3 ⊢
    split
    · rw [List.map_cons, List.sum_cons, h3, List.map_cons, List.sum_cons]; omega
    · first | (rw [List.map_cons, List.sum_cons]; done) | (split; exact absurd ‹_› h2; rw [List.map_cons, List.sum_cons])

end Go.Proofs.Ytmcoidnonmmpjaa

/- A heap that is moved twice: all that the law asks. Nothing of the program is named here. -/
namespace Go.Proofs.Ytmcoidnonmmpjaa
open Go.RowKit
set_option linter.unusedVariables false

theorem ba_beq (s : ByteArray) : (s == s) = true := by show (s.data == s.data) = true; simp
theorem ba_bne (s : ByteArray) : (s != s) = false := by show (!(s.data == s.data)) = false; simp
theorem ba_ne (s t : ByteArray) (h : s ≠ t) : (s == t) = false := by
  show (s.data == t.data) = false
  rw [beq_eq_false_iff_ne]
  intro he
  exact h (ByteArray.ext he)
theorem ba_loop (b : ByteArray) : ∀ (m i : Nat) (r : List UInt8), b.size - i = m → (ByteArray.toList.loop b i r).length = r.length + m := by
  intro m
  induction m with
  | zero =>
    intro i r h
    unfold ByteArray.toList.loop
    rw [if_neg (by omega), List.length_reverse]
    rfl
  | succ m ih =>
    intro i r h
    unfold ByteArray.toList.loop
    rw [if_pos (by omega), ih _ _ (by omega), List.length_cons]
    omega
theorem ba_len (b : ByteArray) : b.toList.length = b.size := by
  unfold ByteArray.toList
  rw [ba_loop b b.size 0 [] rfl]
  simp
theorem ba_empty {b : ByteArray} (h : b.size = 0) : b.toList.isEmpty = true := by
  rw [List.isEmpty_iff, ← List.length_eq_zero_iff, ba_len, h]
theorem ba_full {b : ByteArray} (h : b.size ≠ 0) : b.toList.isEmpty = false := by
  cases hb : b.toList.isEmpty
  · rfl
  · rw [List.isEmpty_iff, ← List.length_eq_zero_iff, ba_len] at hb
    exact absurd hb h
theorem sizeOf_ins_from (ws : List Int) : ∀ (zs acc : List Int), zs.Nodup → (∀ z ∈ zs, z ∉ acc) → sizeOf_ ws (zs.foldl (fun acc n => insI n acc) acc) = sizeOf_ ws zs + sizeOf_ ws acc := by
  intro zs
  induction zs with
  | nil => intro acc _ _; simp [sizeOf_]
  | cons z zs ih =>
    intro acc hn hd
    obtain ⟨h1, h2⟩ := List.nodup_cons.1 hn
    rw [List.foldl_cons, ih _ h2, sizeOf_ins ws z acc (hd z (List.mem_cons_self ..))]
    · unfold sizeOf_
      rw [List.map_cons, List.sum_cons]
      omega
    · intro y hy hm
      rcases insI_mem.1 hm with rfl | hm
      · exact h1 hy
      · exact hd y (List.mem_cons_of_mem _ hy) hm
theorem sizeOf_reach {ws : List Int} {o : List Nat} (h : o.Nodup) : sizeOf_ ws (insAll (nums o)) = (raw ws o).length := by
  have := sizeOf_ins_from ws (nums o) [] (nums_nodup h) (by simp)
  rw [show insAll (nums o) = (nums o).foldl (fun acc n => insI n acc) [] from rfl, this, sizeOf_nums]
  rfl

structure MovedAll (ws : List Int) (h b n : Int) (rs : List Int) (P P2 : Coll) : Prop where
  ok : heapOk P.ws h P.base P.next = true
  shape : shapeOf P.ws h P.base P.next P.roots = shapeOf ws h b n rs
  size : P.next - P.base = (sizeOf_ ws (reachOf ws h b n rs) : Int)
  shape2 : shapeOf P2.ws h P2.base P2.next P2.roots = shapeOf ws h b n rs
  base2 : P2.base = b
  size2 : P2.next - P2.base = (sizeOf_ ws (reachOf ws h b n rs) : Int)
  room : roomOf ws h b n ≤ roomOf P.ws h P.base P.next
  le : sizeOf_ ws (reachOf ws h b n rs) ≤ 3000
  in_ : ∀ x ∈ reachOf ws h b n rs, blockOf ws h b n x = some x.toNat
  is : (shapeOf ws h b n rs).size ≠ 0

theorem moved_all {ws : List Int} {h b n : Int} {rs : List Int} (hr : rightOf ws h b n rs = true) :
    MovedAll ws h b n rs (collectOf ws h b n rs) (collectOf (collectOf ws h b n rs).ws h (collectOf ws h b n rs).base (collectOf ws h b n rs).next (collectOf ws h b n rs).roots) := by
  obtain ⟨h', b', n', ps, rfl, rfl, rfl, hR, hx⟩ := Right.ofR hr
  have M : Mvg ws rs h' b' n' ps (orderOf ws rs) := ⟨hR, hx, rfl⟩
  have hb := hR.frame.base
  have h1 := hR.frame.h1
  have hbh : b' ≤ h' := by omega
  have hraw := hR.raw_le M.ok
  obtain ⟨o, ho⟩ : ∃ o, orderOf ws rs = o := ⟨_, rfl⟩
  have eC := collect_yes hbh hr
  rw [ho] at M hraw eC
  have T := M.mvgT
  have eS := M.shape
  have eT := T.shape
  have eL := M.shapeL
  have eRaw := M.rawlen
  obtain ⟨okT, rT⟩ := T.rightB
  have eC2 := collect_yes (b := h' - b') (by omega) rT
  have T2 := T.mvgT
  have eS2 := T2.shape
  have eL2 := T.shapeL
  have eRaw2 := T.rawlen
  obtain ⟨ok2, r2⟩ := T2.rightB
  rw [M.order] at eC2
  have ebb : h' - (h' - b') = b' := by omega
  have hreach : reachOf ws h' b' n' rs = insAll (nums o) := by rw [reachOf_yes hr, ho]
  have hsz := sizeOf_reach (ws := ws) M.ok.1
  rw [eC]
  dsimp only
  rw [eC2]
  refine ⟨okT, ?_, ?_, ?_, by dsimp only; omega, ?_, ?_, ?_, ?_, ?_⟩
  · dsimp only; rw [eT, eS, eL]
  · dsimp only; rw [hreach, hsz]; omega
  · dsimp only
    rw [eS, ← eL, ← eL2]
    exact eS2
  · dsimp only; rw [hreach, hsz]; omega
  · dsimp only
    unfold roomOf
    rw [if_pos M.rightB.1, if_pos okT]
    have q1 := raw_sub (ws := ws) o ps M.ok.1 M.ok.2
    have q2 := raw_places hR.n_le.1 _ _ _ hR.some hR.frame.n0
    have q3 := hR.frame.n0
    omega
  · rw [hreach, hsz]; omega
  · intro x hxm
    rw [hreach, insAll_mem] at hxm
    obtain ⟨p, hp, rfl⟩ := mem_nums.1 hxm
    rw [blockOf_in M.rightB.1 hR.some (mem_nums.2 ⟨p, M.ok.2 p hp, rfl⟩)]
    rfl
  · rw [eS]
    intro he
    rw [st_size] at he
    unfold shapeL at he
    simp at he

theorem moved_cases {ws : List Int} {h b n : Int} {rs : List Int} {P P2 : Coll} (hP : collectOf ws h b n rs = P) (hP2 : collectOf P.ws h P.base P.next P.roots = P2) :
    (P = ⟨ws, b, n, rs⟩ ∧ shapeOf ws h b n rs = st []) ∨ MovedAll ws h b n rs P P2 := by
  cases hr : rightOf ws h b n rs
  · exact .inl ⟨by rw [← hP, collect_not hr], shapeOf_not hr⟩
  · have m := moved_all hr
    rw [hP, hP2] at m
    exact .inr m
theorem sizeOf_take (ws l : List Int) (k : Nat) (hk : k < l.length) : sizeOf_ ws (l.take (k + 1)) = sizeOf_ ws (l.take k) + 1 + (kidsAt ws (l.getD k 0).toNat).length := by
  rw [← List.take_append_getElem hk, sizeOf_snoc, List.getD_eq_getElem?_getD, List.getElem?_eq_getElem hk]
  show _ = _
  simp only [Option.getD_some]
  omega
theorem sizeOf_le (ws l : List Int) (k : Nat) : sizeOf_ ws (l.take k) ≤ sizeOf_ ws l := by
  have : sizeOf_ ws l = sizeOf_ ws (l.take k) + sizeOf_ ws (l.drop k) := by
    conv => lhs; rw [← List.take_append_drop k l]
    unfold sizeOf_
    rw [List.map_append, List.sum_append]
  omega

end Go.Proofs.Ytmcoidnonmmpjaa

/- BlockAt at a block that is there. -/
namespace Go.Proofs.Ytmcoidnonmmpjaa
open Go.RowKit
set_option linter.unusedVariables false

theorem iBlockAt_in {B : Nat} (v : Value) (ws : List Int) (h b n p : Int) (q : Nat) (w : World) (hr : Rd B .i64 w v ws) (hw : intsOk ws) (hlen : ws.length ≤ 4294967296)
    (bh : -9223372036854775808 ≤ h ∧ h ≤ 9223372036854775807) (bb : -9223372036854775808 ≤ b ∧ b ≤ 9223372036854775807) (bn : -9223372036854775808 ≤ n ∧ n ≤ 9223372036854775807) (hq : blockOf ws h b n p = some q) :
    Calls Try.prog 13 #[.agg #[v, .int .i64 h, .int .i64 b, .int .i64 n], .int .i64 p] w fun e w' =>
      (∃ f t u, e = .returned (.tuple #[.bool f, .int .i64 t, u, .bool true]) ∧ w'.ownsRow w.heap.size 3 1 u (kidsAt ws q).length ((kidsAt ws q).map (Value.int .i64))) ∧ Below w.heap.size w w' := by
  refine (iBlockAt_any v ws h b n p w hr hw hlen bh bb bn).mono ?_
  rintro e w' ⟨h1, h2⟩
  rw [hq] at h1
  obtain ⟨u, h3, h4⟩ := h1
  exact ⟨⟨_, _, u, h3, h4⟩, h2⟩

end Go.Proofs.Ytmcoidnonmmpjaa
