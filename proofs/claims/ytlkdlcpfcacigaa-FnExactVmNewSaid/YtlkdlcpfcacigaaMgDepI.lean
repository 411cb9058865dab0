import Derived.Test.YtlkdlcpfcacigaaMgDepD
import Derived.Test.YtlkdlcpfcacigaaDepW
import Derived.Test.YtlkdlcpfcacigaaFunsOkI
import Derived.Test.YtlkdlcpfcacigaaMgHand
import Derived.Test.YtlkdlcpfcacigaaAppR
import Derived.Test.YtlkdlcpfcacigaaOwnT
import Derived.Test.YtlkdlcpfcacigaaVerL
/- Depths of the program. -/
namespace Go.Proofs.Ytlkdlcpfcacigaa
open Go.RowKit
set_option linter.unusedVariables false
set_option linter.unusedSimpArgs false

/-- what Depths tells. -/
def DepTold (r : Option (List Int)) (e : Ending) (w' : World) : Prop :=
  match r with
  | some ds => ∃ v, e = .returned (.tuple #[v, .bool true]) ∧ Rd w'.heap.size .i64 w' v ds
  | none => e = .returned (.tuple #[.slice none 0 0, .bool false])
theorem own_one {base : Nat} {w : World} {e : TypeId} (u : Value) (hb : base ≤ w.heap.size) : (w.alloc (.cells #[u] e)).ownsRow base e 1 (.slice (some ⟨w.heap.size, 0, none⟩) 1 1) 1 [u] :=
  ⟨rfl, .inr ⟨w.heap.size, 1, #[u], rfl, hb, heap_alloc_new w _, Nat.le_refl _, by unfold maxLen; omega, rfl, rfl⟩⟩
theorem mkRow_first (xs : List Value) (os : List O3) (h : xs.length = os.length) (h0 : 0 < os.length) : (mkRow (fun _ => Value.int .i64 (-1)) xs os.length).set 0 (.int .i64 1) = (dFirst os).map (Value.int .i64) := by
  rw [mkRow_all _ _ _ h]
  unfold dFirst
  rw [List.map_set, List.map_replicate]
  congr 1
  refine List.ext_getElem (by simp) fun i h1 h2 => by simp
/-- the rows of the search. -/
def DpRows (base : Nat) (gr N : Nat) (w : World) (td : Value) (out todo : List Int) : Prop :=
  w.ownsRow base 3 1 (.slice (some ⟨gr, 0, none⟩) N N) N (out.map (Value.int .i64)) ∧ w.ownsRow base 3 1 td todo.length (todo.map (Value.int .i64)) ∧ td.ownBlock ≠ some gr
def DpSt (os : List O3) (r : Option (List Int)) (base gr N : Nat) (td : Value) (w : World) (n : Nat) : Prop := ∃ out todo, DpRows base gr N w td out todo ∧ dRun fol os n out todo = some r
theorem DpSt.step {os : List O3} {r : Option (List Int)} {base gr N : Nat} {td : Value} {w : World} (h : ∃ n, DpSt os r base gr N td w n) :
    ∃ m out todo, leastP (DpSt os r base gr N td w) = m + 1 ∧ DpRows base gr N w td out todo ∧ dRun fol os (m + 1) out todo = some r := by
  obtain ⟨out, todo, h1, h2⟩ := leastP_is h
  cases hn : leastP (DpSt os r base gr N td w) with
  | zero => rw [hn] at h2; cases h2
  | succ m => rw [hn] at h2; exact ⟨m, out, todo, rfl, h1, h2⟩

set_option maxHeartbeats 8000000 in
set_option maxRecDepth 100000 in
theorem iDepths_any {B : Nat} (fv : Value) (fs : List F2) (f : Nat) (w : World) (hr : RdF B w fv fs) (hin : ∀ x ∈ fs, fnIn x) (hfl : f < fs.length) (hfn : fs.length ≤ 60) (hok : funsOk fs = true) (os : List O3) (hos : (fs.getD f fn0).os = os) (h0 : 0 < os.length) (hN : os.length ≤ 3000)
    (hop : ∀ p : Nat, p < os.length → (1 ≤ (opT os p).c ∧ (opT os p).c ≤ 21) ∧ (-2147483648 ≤ (opT os p).n ∧ (opT os p).n ≤ 2147483648) ∧ (-2147483648 ≤ (opT os p).m ∧ (opT os p).m ≤ 2147483648))
    (r : Option (List Int)) (F : Nat) (hd : dRun fol os F (dFirst os) [0] = some r) :
    Calls Try.prog 45 #[fv, .int .i64 f] w fun e w' => DepTold r e w' ∧ Below w.heap.size w w' := by
  obtain ⟨i0, hi, hz0, hz1, hz2⟩ := info_parts Try.infoI2
  have HF := Lib.hid (by have := iFunsOk_any fv fs w hr hin (by omega); rw [hok] at this; exact this : Calls Try.prog 46 #[fv] w fun e w' => e = .returned (.bool true) ∧ Below w.heap.size w w')
  have e1 : IntKind.i64.wrap ((fs.length : Int) - 1) = (fs.length : Int) - 1 := IntWalk.i64_in _ (by omega)
  have HI := Lib.hid (fun (W : World) => (by have := within_any (f : Int) 0 ((fs.length : Int) - 1) W; rw [show inB (f : Int) 0 ((fs.length : Int) - 1) = true from inB_true.2 (by omega)] at this; exact this : Calls Try.prog 44 #[.int .i64 f, .int .i64 0, .int .i64 ((fs.length : Int) - 1)] W fun e w' => e = .returned (.bool true) ∧ W = w'))
  have HR := Lib.hid (fun (W : World) (hb : Below w.heap.size w W) => hr.below' hb)
  obtain ⟨fb, foff, fcap, lv, hfv, hfb0, hfb, _, _, cf1, ro⟩ := (hr.below' (Below.refl w.heap.size w)).at_ hfl
  subst hfv
  rw [fs_getD hfl] at hos
  rw [hos] at ro
  obtain ⟨ob, ooff, ocap, hlv, hob0, hob, _, _⟩ := RdE.at_ ro h0
  subst hlv
  have HC := Lib.hid (fun (W : World) (hb : Below w.heap.size w W) => (hb.cell (p := ⟨fb, foff + f * 2 + 1, none⟩) hfb).trans cf1)
  have RO := Lib.hid (fun (W : World) (hb : Below w.heap.size w W) => RdE.below' ro hb)
  obtain ⟨N, hNN⟩ : ∃ N, os.length = N := ⟨_, rfl⟩
  have HN := Lib.hid hNN
  rw [hNN] at h0 hN hop HC
  have HOP := Lib.hid hop
  have HD := Lib.hid hd
  have hfi : (f : Int) < (fs.length : Int) := by omega
  clear hr hin hok hos cf1 ro hop hd hob0 hfb0
  go_enter Try.func45, Try.ntmps45
  go_wp2_with fail
  refine HF.out.mono ?_
  rintro e w1 ⟨rfl, b1⟩
  go_wp2_with fail
  refine (HI.out w1).mono ?_
  rintro e w2 ⟨rfl, rfl⟩
  have cf := HC.out w1 b1
  have z1 := b1.size
  have B1 := Lib.hid b1
  clear b1 HF HI
  go_wp2_with (refine wpList_make_full _ rfl (.tmp 32) (.tmp 32) 25 rfl w.heap.size 3 i0 (.int .i64 0) 1 Try.underlying25 hi hz0 hz1 .i64 .i64 _ _ N rfl rfl rfl rfl ?_ ?_ ?_ ?_)
  · rw [hz2]; omega
  · unfold maxLen; omega
  · exact z1
  · intro w3 hown hgrow
    have b3 := B1.out.trans (Below.of_grown hgrow (by omega) (fun k hk => by cases hk))
    obtain ⟨xs, hown, hlen⟩ : ∃ xs, w3.ownsRow w.heap.size 3 1 (.slice (some ⟨w1.heap.size, 0, none⟩) N N) N xs ∧ xs.length = N := ⟨_, hown, by simpa using hown.1⟩
    obtain ⟨gr, hgr⟩ : ∃ gr, w1.heap.size = gr := ⟨_, rfl⟩
    rw [hgr] at hown z1 ⊢
    have HL := Lib.hid hlen
    have HOW := Lib.hid hown
    have B3 := Lib.hid b3
    clear hgr hlen hown b3 hgrow B1 cf
    go_wp2
    go_loopw [36] (fun i wr => ∃ k : Nat, k ≤ N ∧ i = .int .i64 k ∧ wr.ownsRow w.heap.size 3 1 (.slice (some ⟨gr, 0, none⟩) N N) N (mkRow (fun _ => Value.int .i64 (-1)) xs k) ∧ Below w.heap.size w wr) (fun i _ => N - (intOf i).toNat)
    case atStart => exact ⟨0, Nat.zero_le _, rfl, by rw [mkRow_zero]; exact HOW.out, B3.out⟩
    case round =>
      clear HOW B3
      obtain ⟨k, hk, rfl, hon, hb⟩ := hrel
      by_cases hlt : k < N
      · have c1 := own_cell hon k hlt
        rw [mkRow_get _ _ _ (by rw [HL.out]; exact hlt)] at c1
        have f1 := own_frozen hon k
        have on3 := own_set hon k hlt (.int .i64 (-1))
        rw [mkRow_set (fun _ => Value.int .i64 (-1)) xs k (by rw [HL.out]; exact hlt)] at on3
        have b4 := hb.setCell (p := ⟨gr, k, none⟩) (by dsimp only; omega) (.int .i64 (-1))
        have hki : (k : Int) < (N : Int) := by omega
        have ON3 := Lib.hid on3
        have B4 := Lib.hid b4
        clear on3 b4 hon hb
        go_wp2
        go_roundw
        case rel => exact ⟨k + 1, hlt, by go_num, ON3.out, B4.out⟩
        case measure => simp [intOf]; omega
      · have hkN : k = N := by omega
        rw [hkN] at hon ⊢
        have hzb := hb.size
        obtain ⟨u, hu⟩ : ∃ u, (mkRow (fun _ => Value.int .i64 (-1)) xs N)[0]? = some u := ⟨_, List.getElem?_eq_getElem (by rw [mkRow_len _ _ _ (by rw [HL.out]; exact Nat.le_refl _), HL.out]; exact h0)⟩
        have c1 := own_cell hon 0 h0
        rw [hu] at c1
        have f1 := own_frozen hon 0
        have on3 := own_set hon 0 h0 (.int .i64 1)
        have e2 := mkRow_first xs os (HL.out.trans HN.out.symm) (by rw [HN.out]; exact h0)
        rw [HN.out] at e2
        rw [e2] at on3
        have b4 := hb.setCell (p := ⟨gr, 0, none⟩) (by dsimp only; omega) (.int .i64 1)
        have zs : (wr.setCell ⟨gr, 0, none⟩ (.int .i64 1)).heap.size = wr.heap.size := by simp
        have hgl : gr < wr.heap.size := (hon.lt _ rfl).2
        have ON3 := Lib.hid on3
        have B4 := Lib.hid b4
        have hki : (0 : Int) < (N : Int) := by omega
        clear on3 b4 hon hb e2 hu HL hlt hk
        go_wp2
        clear hkN c1 f1 u
        obtain ⟨wy, hwy⟩ : ∃ wy, wr.setCell ⟨gr, 0, none⟩ (.int .i64 1) = wy := ⟨_, rfl⟩
        rw [hwy] at ON3 B4 zs ⊢
        rw [← zs] at hzb hgl ⊢
        clear hwy zs
        have hS : DpSt os r w.heap.size gr N (.slice (some ⟨wy.heap.size, 0, none⟩) 1 1) (wy.alloc (.cells #[.int .i64 0] 3)) F :=
          ⟨dFirst os, [0], ⟨ON3.out.alloc _, own_one _ hzb, fun h => by have : wy.heap.size = gr := Option.some.inj h; omega⟩, HD.out⟩
        have HSt := Lib.hid hS
        have B5 := Lib.hid (show Below w.heap.size w (wy.alloc (.cells #[.int .i64 0] 3)) from B4.out.alloc hzb _)
        clear hS ON3 B4
        generalize wy.alloc _ = wz at HSt B5 ⊢
        generalize hv0 : Value.slice (some ⟨wy.heap.size, 0, none⟩) 1 1 = v0 at HSt ⊢
        clear hv0 hzb hgl
        go_loopw [9] (fun td W => (∃ n, DpSt os r w.heap.size gr N td W n) ∧ Below w.heap.size w W) (fun td W => leastP (DpSt os r w.heap.size gr N td W))
        case atStart => exact ⟨⟨F, HSt.out⟩, B5.out⟩
        case round =>
          clear HSt B5 HD
          obtain ⟨hex, hb⟩ := hrel
          obtain ⟨m, out, todo, hm, ⟨o1, o2, hne⟩, hrun⟩ := DpSt.step hex
          have HM := Lib.hid hm
          clear hm hex
          obtain ⟨ta, tc, rfl⟩ := own_form o2
          have hzb := hb.size
          unfold dRun at hrun
          by_cases ht0 : todo.length = 0
          · rw [if_pos ht0] at hrun
            cases hrun
            have hol : out.length = N := by have := o1.1; simpa using this
            have O1 := Lib.hid o1
            have BB := Lib.hid hb
            have h00 : ¬ (0 : Int) < (todo.length : Int) := by omega
            have h01 : ¬ (todo.length : Int) > (0 : Int) := by omega
            clear o1 o2 hb
            go_wp2
            go_ret2
            refine ⟨⟨_, rfl, ?_⟩, BB.out⟩
            exact Rd.of_own O1.out
          · rw [if_neg ht0] at hrun
            have ht1 : (todo.length : Int) > (0 : Int) := by omega
            cases hdk : dOk os out todo
            · rw [hdk] at hrun; simp at hrun
            rw [hdk, if_pos rfl] at hrun
            unfold dOk at hdk
            simp only [Bool.and_eq_true, decide_eq_true_eq] at hdk
            obtain ⟨⟨⟨d1, d2⟩, d3⟩, ⟨d4, d5⟩, d6, d7⟩ := hdk
            obtain ⟨a, ha⟩ : ∃ a : Nat, topT todo = a := ⟨(topT todo).toNat, by omega⟩
            rw [ha] at d4 d5 d6 d7 hrun
            rw [Int.toNat_natCast] at d6 d7 hrun
            obtain ⟨d, hdd⟩ : ∃ d, out.getD a 0 = d := ⟨_, rfl⟩
            rw [hdd] at d6 d7 hrun
            have hNa : a < N := by omega
            have hopa := HOP.out a hNa
            obtain ⟨o, ho⟩ : ∃ o, opT os (a : Int) = o := ⟨_, rfl⟩
            rw [ho] at hopa hrun
            obtain ⟨p1, p2, p3⟩ := hopa
            obtain ⟨kt, hkt⟩ : ∃ kt, todo.length = kt + 1 := ⟨todo.length - 1, by omega⟩
            obtain ⟨tg, rfl, ct⟩ := own_cell_any o2 kt (by omega)
            have hta : todo[kt]'(by omega) = (a : Int) := by
              have h1 : todo.getD (todo.length - 1) 0 = (a : Int) := ha
              rw [show todo.length - 1 = kt by omega, List.getD_eq_getElem?_getD, List.getElem?_eq_getElem (by omega)] at h1
              exact h1
            rw [List.getElem?_map, List.getElem?_eq_getElem (by omega), Option.map_some, hta] at ct
            have co := own_cell o1 a hNa
            rw [List.getElem?_map, List.getElem?_eq_getElem (by omega), Option.map_some, show out[a]'(by omega) = d by rw [← hdd, List.getD_eq_getElem?_getD, List.getElem?_eq_getElem (by omega)]; rfl] at co
            obtain ⟨ob', ooff', ocap', hlv, _, hobW, _, ocells⟩ := RdE.at_ (RO.out wr hb) (show a < os.length by omega)
            cases hlv
            rw [show os[a]'(by omega) = o by rw [← ho]; unfold opT; rw [Int.toNat_natCast, List.getD_eq_getElem?_getD, List.getElem?_eq_getElem (by omega)]; rfl] at ocells
            have q0 : wr.cell? ⟨ob, ooff + a * 3, none⟩ = some (.int .i64 o.c) := ocells 0 (by decide)
            have q1 : wr.cell? ⟨ob, ooff + a * 3 + 1, none⟩ = some (.int .i64 o.n) := ocells 1 (by decide)
            have q2 : wr.cell? ⟨ob, ooff + a * 3 + 2, none⟩ = some (.int .i64 o.m) := ocells 2 (by decide)
            have hcap := own_cap o2
            have e3 : IntKind.i64.wrap ((todo.length : Int) - 1) = (kt : Int) := by rw [IntWalk.i64_in _ (by omega)]; omega
            have hkc : (kt : Int) ≤ (tc : Int) := by omega
            have hk0 : (0 : Int) ≤ (kt : Int) := by omega
            have hkl : (kt : Int) < (todo.length : Int) := by omega
            have hai : (a : Int) < (N : Int) := by omega
            have htk := own_take o2 (k := kt) (by omega)
            rw [Nat.mul_one, ← List.map_take, show todo.take kt = todo.dropLast by rw [List.dropLast_eq_take, hkt, Nat.add_sub_cancel]] at htk
            have hdl : todo.dropLast.length = kt := by rw [List.length_dropLast]; omega
            have hgW : gr < wr.heap.size := (o1.lt _ rfl).2
            have OT := Lib.hid htk
            have HKT := Lib.hid hkt
            have HDL := Lib.hid hdl
            have O1 := Lib.hid o1
            have BB := Lib.hid hb
            have HRUN := Lib.hid hrun
            have HL2 := Lib.hid (And.intro d1 d3)
            obtain ⟨oc, on, om⟩ := o
            dsimp only at p1 p2 p3 q0 q1 q2
            have HA := Lib.hid (fun (W : World) => iAfter_any oc on om d W p1 p2 p3 ⟨d6, d7⟩)
            unfold aftV at HA
            have HFo := Lib.hid (fun (W : World) => iFollows_any oc on om a (by omega) W p1)
            clear hkt hdl o1 o2 hb hrun htk ocells ho hta hdd ha d1 d2 d3 d4 d5
            have split : ∀ P : Prop, (aftB ⟨oc, on, om⟩ d = true → P) → (aftB ⟨oc, on, om⟩ d = false → P) → P := fun P h1 h2 => by
              cases h : aftB ⟨oc, on, om⟩ d
              · exact h2 h
              · exact h1 h
            refine split _ (fun hab => ?_) (fun hab => ?_)
            · rw [hab] at HA
              have hrn : r = none := by have := HRUN.out; rw [hab] at this; exact (Option.some.inj this).symm
              clear HRUN hab split
              go_wp2_with fail
              refine wp_region_held_drew (S := (fun w' => w'.cell? ⟨ob, ooff + a * 3, none⟩ = some (.int .i64 oc) ∧ w'.cell? ⟨ob, ooff + a * 3 + 1, none⟩ = some (.int .i64 on) ∧ w'.cell? ⟨ob, ooff + a * 3 + 2, none⟩ = some (.int .i64 om) ∧ w'.cell? ⟨gr, a, none⟩ = some (.int .i64 d))) (by kernel_rfl) (by first | (dsimp only; exact ⟨q0, q1, q2, co⟩) | (exact ⟨q0, q1, q2, co⟩)) (fun hHeld => ?_)
              refine tkH (i := 0) ?_
              refine tkH (i := 1) ?_
              refine tkH (i := 2) ?_
              refine tkH (i := 3) ?_
              refine tkH (i := 4) ?_
              refine tkH (i := 5) ?_
              refine tkH (i := 6) ?_
              refine tkH (i := 7) ?_
              generalize hxd : wr.drew = W1 at hHeld
              have hd1 : Below wr.heap.size wr W1 := by rw [← hxd]; exact (Below.refl _ _).drew
              have zd := hd1.size
              refine rdH (i := 8) (fun K hK => ?_)
              go_simp
              refine (HA.out W1).mono ?_
              rintro e W2 ⟨rfl, b2⟩
              refine bkH hK (by first | (dsimp only; exact ⟨(b2.cell (by dsimp only; omega)).trans hHeld.1, (b2.cell (by dsimp only; omega)).trans hHeld.2.1, (b2.cell (by dsimp only; omega)).trans hHeld.2.2.1, (b2.cell (by dsimp only; omega)).trans hHeld.2.2.2⟩) | (exact ⟨(b2.cell (by dsimp only; omega)).trans hHeld.1, (b2.cell (by dsimp only; omega)).trans hHeld.2.1, (b2.cell (by dsimp only; omega)).trans hHeld.2.2.1, (b2.cell (by dsimp only; omega)).trans hHeld.2.2.2⟩)) (fun hHeld => ?_)
              clear hK K
              refine tkH (i := 9) ?_
              refine tkH (i := 10) ?_
              refine tkH (i := 11) ?_
              refine tkH (i := 12) ?_
              refine tkH (i := 13) ?_
              refine wpAnyH_done (by kernel_rfl) ?_ _
              have BB2 := Lib.hid (BB.out.trans ((hd1.trans (b2.mono zd)).mono BB.out.size))
              go_wp2
              go_ret2
              rw [hrn]
              exact ⟨rfl, BB2.out⟩
            · rw [hab] at HA
              have hrun := HRUN.out
              rw [hab, if_neg (by simp)] at hrun
              obtain ⟨D, hD⟩ : ∃ D, aftN ⟨oc, on, om⟩ d = D := ⟨_, rfl⟩
              obtain ⟨l, hl⟩ : ∃ l, fol ⟨oc, on, om⟩ (a : Int) = l := ⟨_, rfl⟩
              rw [hD] at HA hrun
              rw [hl] at HFo hrun
              have HRUN2 := Lib.hid hrun
              have HAB := Lib.hid hab
              clear HRUN hrun hab split
              go_wp2_with fail
              refine wp_region_held_drew (S := (fun w' => w'.cell? ⟨ob, ooff + a * 3, none⟩ = some (.int .i64 oc) ∧ w'.cell? ⟨ob, ooff + a * 3 + 1, none⟩ = some (.int .i64 on) ∧ w'.cell? ⟨ob, ooff + a * 3 + 2, none⟩ = some (.int .i64 om) ∧ w'.cell? ⟨gr, a, none⟩ = some (.int .i64 d))) (by kernel_rfl) (by first | (dsimp only; exact ⟨q0, q1, q2, co⟩) | (exact ⟨q0, q1, q2, co⟩)) (fun hHeld => ?_)
              refine tkH (i := 0) ?_
              refine tkH (i := 1) ?_
              refine tkH (i := 2) ?_
              refine tkH (i := 3) ?_
              refine tkH (i := 4) ?_
              refine tkH (i := 5) ?_
              refine tkH (i := 6) ?_
              refine tkH (i := 7) ?_
              generalize hxd : wr.drew = W1 at hHeld
              have hd1 : Below wr.heap.size wr W1 := by rw [← hxd]; exact (Below.refl _ _).drew
              have zd := hd1.size
              refine rdH (i := 8) (fun K hK => ?_)
              go_simp
              refine (HA.out W1).mono ?_
              rintro e W2 ⟨rfl, b2⟩
              refine bkH hK (by first | (dsimp only; exact ⟨(b2.cell (by dsimp only; omega)).trans hHeld.1, (b2.cell (by dsimp only; omega)).trans hHeld.2.1, (b2.cell (by dsimp only; omega)).trans hHeld.2.2.1, (b2.cell (by dsimp only; omega)).trans hHeld.2.2.2⟩) | (exact ⟨(b2.cell (by dsimp only; omega)).trans hHeld.1, (b2.cell (by dsimp only; omega)).trans hHeld.2.1, (b2.cell (by dsimp only; omega)).trans hHeld.2.2.1, (b2.cell (by dsimp only; omega)).trans hHeld.2.2.2⟩)) (fun hHeld => ?_)
              clear hK K
              refine tkH (i := 9) ?_
              refine tkH (i := 10) ?_
              refine tkH (i := 11) ?_
              refine tkH (i := 12) ?_
              refine tkH (i := 13) ?_
              refine wpAnyH_done (by kernel_rfl) ?_ _
              have bw2 := hd1.trans (b2.mono zd)
              have BB2 := Lib.hid (BB.out.trans (bw2.mono BB.out.size))
              have O2 := Lib.hid (own_below O1.out bw2 (own_lt O1.out))
              have OT2 := Lib.hid (own_below OT.out bw2 (own_lt OT.out))
              have hgW2 : gr < W2.heap.size := Nat.lt_of_lt_of_le hgW bw2.size
              have hcell := fun (j : Nat) (u : Value) (h : wr.cell? ⟨ob, j, none⟩ = some u) => (bw2.cell (p := ⟨ob, j, none⟩) (by dsimp only; omega)).trans h
              have t0 := hcell _ _ q0
              have t1 := hcell _ _ q1
              have t2 := hcell _ _ q2
              clear hcell q0 q1 q2 co ct BB O1 OT hgW bw2 hd1 b2 zd hxd hHeld HA
              go_wp2_with fail
              refine (HFo.out W2).mono ?_
              rintro e W3 ⟨lv, rfl, rl, lfr, b3⟩
              obtain ⟨la, lc, rfl⟩ := rl.form
              have BB3 := Lib.hid (BB2.out.trans (b3.mono BB2.out.size))
              have O3' := Lib.hid (own_below O2.out b3 (own_lt O2.out))
              have OT3 := Lib.hid (own_below OT2.out b3 (own_lt OT2.out))
              have hl1 : ∀ i, (Value.slice la l.length lc).ownBlock = some i → i ≠ gr := fun i hi e => by have := lfr i hi; omega
              have hl2 : ∀ i, (Value.slice la l.length lc).ownBlock = some i → (Value.slice (some ⟨tg, 0, none⟩) kt tc).ownBlock ≠ some i := fun i hi e => by
                have h1 := lfr i hi
                have h2 : tg = i := Option.some.inj e
                have := (OT2.out.lt tg rfl).2
                omega
              have hne2 : (Value.slice (some ⟨tg, 0, none⟩) kt tc).ownBlock ≠ some gr := hne
              have hgW3 : gr < W3.heap.size := Nat.lt_of_lt_of_le hgW2 b3.size
              cases hdi : dIn D l out todo.dropLast with
              | none => have := HRUN2.out; rw [hdi] at this; cases this
              | some X =>
              have hX := HRUN2.out
              rw [hdi] at hX
              have HX := Lib.hid hX
              have HDI := Lib.hid hdi
              have RL := Lib.hid rl
              have HL3 := Lib.hid (show l.length ≤ 2 by rw [← hl]; unfold fol; split <;> (try split) <;> (try split) <;> (try split) <;> simp)
              clear hX hdi HRUN2 rl lfr b3 BB2 O2 OT2 hne hl t0 t1 t2 hgW2
              go_wp2
              go_loopw [9, 81] (fun td i W => ∃ (j : Nat) (out2 todo2 : List Int), j ≤ l.length ∧ i = .int .i64 j ∧ DpRows w.heap.size gr N W td out2 todo2 ∧ (∀ q, (Value.slice la l.length lc).ownBlock = some q → td.ownBlock ≠ some q) ∧ Rd W.heap.size .i64 W (.slice la l.length lc) l ∧
                Hid (dIn D (l.drop j) out2 todo2 = some X) ∧ out2.length = N ∧ todo2.length ≤ 100000 + j ∧ Below w.heap.size w W) (fun _ i _ => l.length - (intOf i).toNat)
              case atStart => exact ⟨0, out, todo.dropLast, Nat.zero_le _, rfl, ⟨O3'.out, by rw [HDL.out]; exact OT3.out, hne2⟩, hl2, RL.out, HDI, HL2.out.1.trans HN.out, by rw [HDL.out]; have := HL2.out.2; have := HKT.out; omega, BB3.out⟩
              case round =>
                clear O3' OT3 BB3 RL HDI hl2 hne2
                obtain ⟨j, out2, todo2, hj, rfl, ⟨o1, o2, hne3⟩, hdj, rl, hdi, hol, htl, hb⟩ := hrel
                obtain ⟨ta2, tc2, rfl⟩ := own_form o2
                have hl3 := HL3.out
                have hzb := hb.size
                by_cases hlt : j < l.length
                · have hq := hdi.out
                  rw [List.drop_eq_getElem_cons hlt] at hq
                  unfold dIn at hq
                  obtain ⟨q, hqq⟩ : ∃ q, l[j] = q := ⟨_, rfl⟩
                  rw [hqq] at hq
                  by_cases hin : 0 ≤ q ∧ q < out2.length
                  case neg => rw [if_neg hin] at hq; cases hq
                  rw [if_pos hin] at hq
                  obtain ⟨p, rfl⟩ : ∃ p : Nat, q = p := ⟨q.toNat, by omega⟩
                  rw [Int.toNat_natCast] at hq
                  have hp : p < N := by omega
                  have RLk := Lib.hid rl
                  rcases rl with ⟨h', _⟩ | ⟨bl, off, c', hv, _, hbs, hmx, hc⟩
                  · rw [h'] at hlt; simp at hlt
                  cases hv
                  have c0 := hc j hlt
                  rw [List.getD_eq_getElem?_getD, List.getElem?_eq_getElem hlt, Option.getD_some, hqq] at c0
                  obtain ⟨x, hx⟩ : ∃ x, out2.getD p 0 = x := ⟨_, rfl⟩
                  have co := own_cell o1 p hp
                  rw [List.getElem?_map, List.getElem?_eq_getElem (by omega), Option.map_some, show out2[p]'(by omega) = x by rw [← hx, List.getD_eq_getElem?_getD, List.getElem?_eq_getElem (by omega)]; rfl] at co
                  rw [hx] at hq
                  have hji : (j : Int) < (l.length : Int) := by omega
                  have hpi : (p : Int) < (N : Int) := by omega
                  have HOL := Lib.hid hol
                  have hgwr : gr < wr.heap.size := (o1.lt _ rfl).2
                  clear hc hx hol hqq hdi hin hmx
                  by_cases hneg : x < 0
                  · rw [if_pos hneg] at hq
                    have f1 := own_frozen o1 p
                    have os1 := own_set o1 p hp (.int .i64 D)
                    rw [← List.map_set] at os1
                    have g3 := grownBy.setCell wr gr p (.int .i64 D)
                    have ot1 := o2.kept g3 (.inr hne3)
                    have rl1 := Rd.grow RLk.out g3 (fun i hi e => hl1 i hi (Option.some.inj e))
                    have b4 := hb.setCell (p := ⟨gr, p, none⟩) (by dsimp only; omega) (.int .i64 D)
                    have OS1 := Lib.hid os1
                    have OT1 := Lib.hid ot1
                    have RL1 := Lib.hid rl1
                    have B4 := Lib.hid b4
                    have HQ := Lib.hid hq
                    have hxl : x < (0 : Int) := hneg
                    clear os1 ot1 rl1 b4 hq o1 o2 hb RLk g3
                    have e5 : (wr.setCell ⟨gr, p, none⟩ (.int .i64 D)).heap.size = wr.heap.size := by simp
                    go_wp2_with (at_builtin; refine wpList_app1_at rfl _ _ 25 rfl w.heap.size 3 i0 (.int .i64 0) 1 8 Try.underlying25 hi hz0 hz1 hz2 rfl (by decide) _ _ _ rfl OT1.out #[_] rfl ?_ wr.heap.size e5 rfl ?_ ?_ ?_ ?_)
                    · rfl
                    · unfold maxLen; omega
                    · omega
                    · rw [e5]; exact hzb
                    · intro v' w4 ho4 hg4 hat4
                      have k1 := OS1.out.kept hg4 (.inr (fun h => hne3 h.symm))
                      have k2 : w4.ownsRow w.heap.size 3 1 v' (todo2 ++ [(p : Int)]).length ((todo2 ++ [(p : Int)]).map (Value.int .i64)) := by simpa using ho4
                      have k3 : v'.ownBlock ≠ some gr := by
                        rcases hat4 with h | h
                        · rw [h]; exact hne3
                        · rw [h]; intro h'; have := Option.some.inj h'; omega
                      have k4 : ∀ i, (Value.slice (some ⟨bl, off, none⟩) l.length lc).ownBlock = some i → v'.ownBlock ≠ some i := fun i hi => by
                        have hi' : bl = i := Option.some.inj hi
                        rcases hat4 with h | h
                        · rw [h]; exact hdj i hi
                        · rw [h]; intro h'; have := Option.some.inj h'; omega
                      have k5 := Rd.grow RL1.out hg4 (fun i hi e => hdj i hi e.symm)
                      have k6 := B4.out.trans (Below.of_grown hg4 (by rw [e5]; exact hzb) (fun k hk => (OT1.out.lt k hk).1))
                      have c2 := own_cell k1 p hp
                      rw [List.map_set, List.getElem?_set_self (by rw [List.length_map, HOL.out]; exact hp)] at c2
                      have K := Lib.hid (And.intro (And.intro k1 (And.intro k2 k3)) (And.intro k4 (And.intro k5 k6)))
                      have hlen2 : (out2.set p D).length = N := by rw [List.length_set]; exact HOL.out
                      have HL4 := Lib.hid hlen2
                      clear k1 k2 k3 k4 k5 k6 ho4 hg4 hat4 hlen2 OS1 OT1 RL1 B4 c0 co f1 e5
                      go_wp2
                      go_roundw
                      case rel => exact ⟨j + 1, out2.set p D, todo2 ++ [(p : Int)], hlt, by go_num, K.out.1, K.out.2.1, K.out.2.2.1, HQ, HL4.out, by simp; omega, K.out.2.2.2⟩
                      case measure => simp [intOf]; omega
                  · rw [if_neg hneg] at hq
                    have O1 := Lib.hid (And.intro o1 (And.intro o2 hne3))
                    have BB := Lib.hid hb
                    clear o1 o2 hb
                    by_cases heq : x = D
                    · rw [if_pos heq] at hq
                      have HQ := Lib.hid hq
                      subst heq
                      clear hq
                      go_wp2
                      go_roundw
                      case rel => exact ⟨j + 1, out2, todo2, hlt, by go_num, O1.out, hdj, RLk.out, HQ, HOL.out, by omega, BB.out⟩
                      case measure => simp [intOf]; omega
                    · rw [if_neg heq] at hq
                      have hXn := HX.out
                      cases hq
                      have hrn : r = none := (Option.some.inj hXn).symm
                      have hnx : (x != D) = true := by simpa using heq
                      clear hXn heq
                      go_wp2
                      go_ret2
                      try rw [hrn]
                      exact ⟨rfl, BB.out⟩
                · obtain rfl : j = l.length := by omega
                  have hq := hdi.out
                  rw [List.drop_length] at hq
                  have hXe : X = some (out2, todo2) := (Option.some.inj hq).symm
                  subst hXe
                  have O1 := Lib.hid (And.intro o1 (And.intro o2 hne3))
                  have BB := Lib.hid hb
                  clear o1 o2 hb hdi hq rl
                  go_wp2
                  go_roundw
                  case rel => exact ⟨⟨m, out2, todo2, O1.out, HX.out⟩, BB.out⟩
                  case measure =>
                    rw [HM.out]
                    exact Nat.lt_succ_of_le (leastP_le ⟨out2, todo2, O1.out, HX.out⟩)

end Go.Proofs.Ytlkdlcpfcacigaa

/- Verify of the program. -/
namespace Go.Proofs.Ytlkdlcpfcacigaa
open Go.RowKit
set_option linter.unusedVariables false
set_option linter.unusedSimpArgs false

set_option maxRecDepth 100000 in
theorem iDepths_no {B : Nat} (fv : Value) (fs : List F2) (f : Int) (w : World) (hr : RdF B w fv fs) (hin : ∀ x ∈ fs, fnIn x) (hlen : fs.length ≤ 4294967296) (hok : funsOk fs = false) :
    Calls Try.prog 45 #[fv, .int .i64 f] w fun e w' => e = .returned (.tuple #[.slice none 0 0, .bool false]) ∧ Below w.heap.size w w' := by
  have HF := Lib.hid (by have := iFunsOk_any fv fs w hr hin hlen; rw [hok] at this; exact this : Calls Try.prog 46 #[fv] w fun e w' => e = .returned (.bool false) ∧ Below w.heap.size w w')
  clear hr
  go_enter Try.func45, Try.ntmps45
  go_wp2_with fail
  refine HF.out.mono ?_
  rintro e w1 ⟨rfl, b1⟩
  go_wp2
  go_ret2
  exact ⟨rfl, b1⟩

/-- Depths of the i-th function of functions that are right. -/
theorem iDepths_ok {B : Nat} (fv : Value) (fs : List F2) (f : Nat) (w : World) (hr : RdF B w fv fs) (hin : ∀ x ∈ fs, fnIn x) (hfl : f < fs.length) (hok : funsOk fs = true) :
    Calls Try.prog 45 #[fv, .int .i64 f] w fun e w' => (∃ v, e = .returned (.tuple #[v, .bool (okB fol (fs.getD f fn0).os)])) ∧ Below w.heap.size w w' := by
  obtain ⟨h1, h2⟩ := fn_parts hok
  obtain ⟨hc, hop⟩ := fn_code hok hfl
  obtain ⟨r, hd, hrr⟩ := okB_run hc (fl := fol) (fun _ _ _ => Iff.rfl)
  refine (iDepths_any fv fs f w hr hin hfl h1.2 hok _ rfl (h2 f hfl).1.2.1 (h2 f hfl).1.2.2 hop r _ hd).mono ?_
  rintro e w' ⟨ht, hb⟩
  refine ⟨?_, hb⟩
  rw [hrr]
  cases r with
  | none => exact ⟨_, ht⟩
  | some r => obtain ⟨v, hv, _⟩ := ht; exact ⟨v, hv⟩

set_option maxHeartbeats 1600000 in
set_option maxRecDepth 100000 in
theorem iVerify_any {B : Nat} (fv : Value) (fs : List F2) (w : World) (hr : RdF B w fv fs) (hin : ∀ x ∈ fs, fnIn x) (hlen : fs.length ≤ 4294967296) :
    Calls Try.prog 20 #[fv] w fun e w' => e = .returned (.bool (verB fs)) ∧ Below w.heap.size w w' := by
  have HD := Lib.hid (show ∀ (i : Nat) (W : World), i < fs.length → Below w.heap.size w W → Calls Try.prog 45 #[fv, .int .i64 i] W fun e w' => ∃ v b, e = .returned (.tuple #[v, .bool b]) ∧ (b = false → verB fs = false) ∧ (b = true → funsOk fs = true ∧ okB fol (fs.getD i fn0).os = true) ∧ Below w.heap.size w w' from fun i W hi hb => by
    cases hok : funsOk fs
    · refine (iDepths_no fv fs i W (hr.below' hb) hin hlen hok).mono ?_
      rintro e w' ⟨rfl, b1⟩
      exact ⟨_, false, rfl, fun _ => verB_no hok, (fun h => by cases h), hb.trans (b1.mono hb.size)⟩
    · refine (iDepths_ok fv fs i W (hr.below' hb) hin hi hok).mono ?_
      rintro e w' ⟨⟨v, rfl⟩, b1⟩
      exact ⟨v, _, rfl, fun h => verB_bad hi h, fun h => ⟨rfl, h⟩, hb.trans (b1.mono hb.size)⟩)
  have HF := Lib.hid (fun (W : World) (hb : Below w.heap.size w W) => iFunsOk_any fv fs W (hr.below' hb) hin hlen)
  obtain ⟨fa, fc, rfl⟩ := hr.form
  obtain ⟨N, hN⟩ : ∃ N, fs.length = N := ⟨_, rfl⟩
  have HN := Lib.hid hN
  rw [hN] at hlen HD HF ⊢
  clear hr hin hN
  go_enter Try.func20, Try.ntmps20
  go_wp2
  go_loopw [8] (fun i W => ∃ k : Nat, k ≤ N ∧ i = .int .i64 k ∧ (∀ j, j < k → okB fol (fs.getD j fn0).os = true) ∧ Below w.heap.size w W) (fun i _ => N - (intOf i).toNat)
  case atStart => exact ⟨0, Nat.zero_le _, rfl, fun j hj => absurd hj (Nat.not_lt_zero _), Below.refl _ _⟩
  case round =>
    obtain ⟨k, hk, rfl, hall, hb⟩ := hrel
    by_cases hlt : k < N
    · have hki : (k : Int) < (N : Int) := by omega
      go_wp2_with fail
      refine (HD.out k wr hlt hb).mono ?_
      rintro e w2 ⟨v, b, rfl, h1, h2, b2⟩
      cases b
      · have h3 := Lib.hid (h1 rfl)
        clear h1 h2
        go_wp2
        go_ret
        exact ⟨ret_bool h3.out.symm, b2⟩
      · obtain ⟨h3, h4⟩ := h2 rfl
        have hall2 := Lib.hid (show ∀ j, j < k + 1 → okB fol (fs.getD j fn0).os = true from fun j hj => by rcases Nat.lt_succ_iff_lt_or_eq.1 hj with h | rfl; (· exact hall j h); exact h4)
        have B2 := Lib.hid b2
        clear h1 h2 h3 h4 hall b2 hb
        go_wp2
        go_roundw
        case rel => exact ⟨k + 1, hlt, by go_num, hall2.out, B2.out⟩
        case measure => simp [intOf]; omega
    · have hkN : k = N := by omega
      subst hkN
      have hki : ¬ (k : Int) < (k : Int) := by omega
      go_wp2_with fail
      refine (HF.out wr hb).mono ?_
      rintro e w2 ⟨rfl, b2⟩
      have hv : funsOk fs = verB fs := by
        cases hok : funsOk fs
        · exact (verB_no hok).symm
        · exact (verB_yes hok (fun i hi => hall i (by rw [HN.out] at hi; exact hi))).symm
      have b3 := hb.trans (b2.mono hb.size)
      have HV := Lib.hid hv
      clear hv hall
      go_wp2
      go_ret
      exact ⟨ret_bool HV.out, b3⟩

end Go.Proofs.Ytlkdlcpfcacigaa
