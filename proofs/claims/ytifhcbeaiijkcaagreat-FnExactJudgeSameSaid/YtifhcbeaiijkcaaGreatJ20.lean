/- Parts of the proof of FnExactJudgeSame. -/
import Derived.Test.YtifhcbeaiijkcaaGreatJ19
import Derived.Test.YtifhcbeaiijkcaaGreatRows
import Derived.Test.YtifhcbeaiijkcaaGreatJ01
import Derived.Lib.SliceRun
set_option linter.unusedVariables false
set_option linter.unusedSimpArgs false
set_option maxRecDepth 1000000
set_option maxHeartbeats 16000000
namespace Go.Proofs.YtifhcbeaiijkcaaGreat
open Go.RowKit
open _root_.Go.World renaming alloc→Wa,setCell→Ws
open _root_.Go.Proofs.Tryz renaming prog→Pq
def KY (ps:List Nat) (xs:List Int) (e:Ending):Prop:=∃r:Int,e= .returned (.int .i64 r)∧(0≤r↔xs.all (AA ps)=false)
theorem Gk {ps:List Nat}{xs:List Int}{x:Int}{k:Nat}(hk:k < xs.length) (hx:xs.getD k 0=x) (h:AA ps x=false):xs.all (AA ps)=false:=by
 rw[Ec];exact⟨x,Hq hk hx,by rw[h];simp⟩
theorem Gl {ps:List Nat}{xs:List Int}(h:∀j,j < xs.length→AA ps (xs.getD j 0)=true):xs.all (AA ps)=true:=by
 rw[BA];intro x hx;obtain⟨i,hi,he⟩:=DG hx;have:=h i hi
 simpa [List.getD,Ay hi,he] using this
theorem Gm {ps:List Nat}{xs:List Int}{k:Nat}(h:∀j,j < k→AA ps (xs.getD j 0)=true) (he:AA ps (xs.getD k 0)=true):∀j,j < k+1→AA ps (xs.getD j 0)=true:=by
 intro j hj;by_cases e:j=k
 ·subst e;exact he
 ·exact h j (by omega)
theorem PA {B:Nat}(g:Nat) (v:Value) (ps:List Nat) (x:Int) (w:World) (hr:Rd B .i64 w v (AS ps)) (hs:ps.Pairwise (· < ·)) (hlen:ps.length≤4294967296) (hg:w.cell? ⟨g,0,none⟩=some v):
  Calls Pq 185 #[.int .i64 x,.pointer (some ⟨g,0,none⟩)] w fun e w'=>e= .returned (.bool (!AA ps x))∧w=w':=by
 have HW:=Aa (Iy v ps x w hr hs hlen);obtain⟨a,cap,rfl⟩:=hr.form;clear hr hs;go_enter Tryz.func185,Tryz.ntmps185;go_wp2_with fail;refine HW.out.mono ?_;rintro e w' ⟨rfl,rfl⟩;go_wp2;go_ret;exact⟨rfl,rfl⟩
theorem PB {B B':Nat}(g:Nat) (v u:Value) (ps:List Nat) (xs:List Int) (w:World) (hr:Rd B .i64 w v (AS ps)) (hs:ps.Pairwise (· < ·)) (hlen:ps.length≤4294967296) (hg:w.cell? ⟨g,0,none⟩=some v) (hu:Rd B' .i64 w u xs):
  Calls Pq 142 #[u,.func (.func 185) #[] #[.pointer (some ⟨g,0,none⟩)]] w fun e w'=>KY ps xs e∧w=w':=by
 have hx:=hu.len;unfold maxLen at hx;have HF:=Aa (fun x=>PA g v ps x w hr hs hlen hg);clear hr hs hg;rcases hu with ⟨rfl,a,cap,rfl⟩ |⟨b,off,cap,rfl,hB,hbs,hm,hc⟩
 ·go_enter Tryz.func142,Tryz.ntmps142;go_wp2;refine FD 1 ?_;rw[FE];go_wp2;go_ret;exact⟨⟨-1,rfl,by simp⟩,rfl⟩
 ·go_enter Tryz.func142,Tryz.ntmps142;go_wp2
  go_loop [5,8] (fun _ i=>∃k:Nat,k≤xs.length∧i= .int .i64 k∧Hid (∀j,j < k→AA ps (xs.getD j 0)=true)) (fun _ i=>xs.length - (intOf i).toNat)
  case atStart=>exact⟨0,Ao _,rfl,fun j hj=>by omega⟩
  case round=>
   obtain⟨k,hk,rfl,hd⟩:=hrel;by_cases hlt:k < xs.length
   ·have c1:=hc k hlt;obtain⟨x,hx⟩:∃x,xs.getD k 0=x:=⟨_,rfl⟩;rw[hx]at c1;have HX:=Aa hx;clear hc hx;cases he:AA ps x
    ·go_wp2_with fail;refine(HF.out x).mono ?_;rintro e w' ⟨rfl,rfl⟩;rw[he];go_wp2;go_ret;exact⟨⟨k,rfl,by simp only[Kb,true_iff];exact Gk hlt HX.out he⟩,rfl⟩
    ·go_wp2_with fail;refine(HF.out x).mono ?_;rintro e w' ⟨rfl,rfl⟩;rw[he];go_wp2
     go_round
     case rel=>exact⟨k+1,hlt,by go_num,Gm hd.out (by rw[HX.out];exact he)⟩
     case measure=>simp[intOf];omega
   ·go_wp2;go_ret;exact⟨⟨-1,rfl,⟨fun h=>by omega,fun h=>by rw[Gl (fun j hj=>hd.out j (by omega))]at h;cases h⟩⟩,rfl⟩
theorem PC {B B':Nat}(g:Nat) (v u:Value) (ps:List Nat) (xs:List Int) (w:World) (hr:Rd B .i64 w v (AS ps)) (hs:ps.Pairwise (· < ·)) (hlen:ps.length≤4294967296) (hg:w.cell? ⟨g,0,none⟩=some v) (hu:Rd B' .i64 w u xs):
  Calls Pq 79 #[u,.func (.func 185) #[] #[.pointer (some ⟨g,0,none⟩)]] w fun e w'=>e= .returned (.bool (!xs.all (AA ps)))∧w=w':=by
 have HI:=Aa (PB g v u ps xs w hr hs hlen hg hu);clear hr hs hg hu;go_enter Tryz.func79,Tryz.ntmps79;go_wp2_with fail;refine HI.out.mono ?_;rintro e w' ⟨⟨r,rfl,hr⟩,rfl⟩;have HR:=Aa hr;clear hr;go_wp2
 all_goals go_ret
 all_goals exact⟨Ac (by have:=HR.out;rw[Ds];simp only[Du,IF];exact this),rfl⟩
theorem PD {B:Nat}(g:Nat) (v:Value) (ps:List Nat) (x:Int) (w:World) (hr:Rd B .i64 w v (AS ps)) (hs:ps.Pairwise (· < ·)) (hlen:ps.length≤4294967296) (hg:w.cell? ⟨g,0,none⟩=some v):
  Calls Pq 140 #[.int .i64 x,.pointer (some ⟨g,0,none⟩)] w fun e w'=>e= .returned (.bool (!AA ps x))∧w=w':=by
 have HW:=Aa (Iy v ps x w hr hs hlen);obtain⟨a,cap,rfl⟩:=hr.form;clear hr hs;go_enter Tryz.func140,Tryz.ntmps140;go_wp2_with fail;refine HW.out.mono ?_;rintro e w' ⟨rfl,rfl⟩;go_wp2;go_ret;exact⟨rfl,rfl⟩
theorem PE {B B':Nat}(g:Nat) (v u:Value) (ps:List Nat) (xs:List Int) (w:World) (hr:Rd B .i64 w v (AS ps)) (hs:ps.Pairwise (· < ·)) (hlen:ps.length≤4294967296) (hg:w.cell? ⟨g,0,none⟩=some v) (hu:Rd B' .i64 w u xs):
  Calls Pq 142 #[u,.func (.func 140) #[] #[.pointer (some ⟨g,0,none⟩)]] w fun e w'=>KY ps xs e∧w=w':=by
 have hx:=hu.len;unfold maxLen at hx;have HF:=Aa (fun x=>PD g v ps x w hr hs hlen hg);clear hr hs hg;rcases hu with ⟨rfl,a,cap,rfl⟩ |⟨b,off,cap,rfl,hB,hbs,hm,hc⟩
 ·go_enter Tryz.func142,Tryz.ntmps142;go_wp2;refine FD 1 ?_;rw[FE];go_wp2;go_ret;exact⟨⟨-1,rfl,by simp⟩,rfl⟩
 ·go_enter Tryz.func142,Tryz.ntmps142;go_wp2
  go_loop [5,8] (fun _ i=>∃k:Nat,k≤xs.length∧i= .int .i64 k∧Hid (∀j,j < k→AA ps (xs.getD j 0)=true)) (fun _ i=>xs.length - (intOf i).toNat)
  case atStart=>exact⟨0,Ao _,rfl,fun j hj=>by omega⟩
  case round=>
   obtain⟨k,hk,rfl,hd⟩:=hrel;by_cases hlt:k < xs.length
   ·have c1:=hc k hlt;obtain⟨x,hx⟩:∃x,xs.getD k 0=x:=⟨_,rfl⟩;rw[hx]at c1;have HX:=Aa hx;clear hc hx;cases he:AA ps x
    ·go_wp2_with fail;refine(HF.out x).mono ?_;rintro e w' ⟨rfl,rfl⟩;rw[he];go_wp2;go_ret;exact⟨⟨k,rfl,by simp only[Kb,true_iff];exact Gk hlt HX.out he⟩,rfl⟩
    ·go_wp2_with fail;refine(HF.out x).mono ?_;rintro e w' ⟨rfl,rfl⟩;rw[he];go_wp2
     go_round
     case rel=>exact⟨k+1,hlt,by go_num,Gm hd.out (by rw[HX.out];exact he)⟩
     case measure=>simp[intOf];omega
   ·go_wp2;go_ret;exact⟨⟨-1,rfl,⟨fun h=>by omega,fun h=>by rw[Gl (fun j hj=>hd.out j (by omega))]at h;cases h⟩⟩,rfl⟩
theorem PF {B B':Nat}(g:Nat) (v u:Value) (ps:List Nat) (xs:List Int) (w:World) (hr:Rd B .i64 w v (AS ps)) (hs:ps.Pairwise (· < ·)) (hlen:ps.length≤4294967296) (hg:w.cell? ⟨g,0,none⟩=some v) (hu:Rd B' .i64 w u xs):
  Calls Pq 79 #[u,.func (.func 140) #[] #[.pointer (some ⟨g,0,none⟩)]] w fun e w'=>e= .returned (.bool (!xs.all (AA ps)))∧w=w':=by
 have HI:=Aa (PE g v u ps xs w hr hs hlen hg hu);clear hr hs hg hu;go_enter Tryz.func79,Tryz.ntmps79;go_wp2_with fail;refine HI.out.mono ?_;rintro e w' ⟨⟨r,rfl,hr⟩,rfl⟩;have HR:=Aa hr;clear hr;go_wp2
 all_goals go_ret
 all_goals exact⟨Ac (by have:=HR.out;rw[Ds];simp only[Du,IF];exact this),rfl⟩
theorem Jh {ws : List Int} {h b n : Int} (hf : CR ws h b n = true) : ∃ h' b' n' : Nat, h = h' ∧ b = b' ∧ n = n' ∧ Frame ws h' b' n' := by
  unfold CR at hf
  rw [Du] at hf
  obtain ⟨h1, h2, h3, h4, h5, h6⟩ := hf
  exact ⟨h.toNat, b.toNat, n.toNat, by omega, by omega, by omega, by omega, by omega, by omega, by omega, by omega, by omega⟩
theorem EZ {ws : List Int} {h b n : Int} (hf : CR ws h b n = false) : Cf ws h b n = false := by simp [Cf, hf]
theorem LR {ws : List Int} {h b n : Int} (hf : inB h 1 3000 = false) : CR ws h b n = false := by
  have := Ju.1 hf
  simp only [CR, Dr]; omega
theorem LS {ws : List Int} {h b n : Int} (hf : ¬ (ws.length : Int) = 2 * h) : CR ws h b n = false := by
  simp only [CR, Dr]; omega
theorem LU {ws : List Int} {h b n : Int} (h1 : ¬ b = 0) (h2 : ¬ b = h) : CR ws h b n = false := by
  simp only [CR, Dr]; omega
theorem LV {ws : List Int} {h b n : Int} (hf : inB n b (b + h) = false) : CR ws h b n = false := by
  have := Ju.1 hf
  simp only [CR, Dr]; omega
theorem LW {ws : List Int} {h b n : Int} (h1 : inB h 1 3000 = true) (h2 : (ws.length : Int) = 2 * h) (h3 : b = 0 ∨ b = h) (h4 : inB n b (b + h) = true) : CR ws h b n = true := by
  have := Ct.1 h1
  have := Ct.1 h4
  simp only [CR, Du]; omega
theorem Ji {ws : List Int} {h b n : Nat} (hp : Cz ws b n = none) : Cf ws h b n = false := by simp [Cf, hp]
theorem Jj {ws : List Int} {h b n : Nat} {ps : List Nat} (hf : CR ws h b n = true) (hp : Cz ws b n = some ps) : Cf ws h b n = EY ws ps := by simp [Cf, hp, hf]
theorem Jk (ws : List Int) (p m j : Nat) (hj : j < m) : ((ws.drop p).take m).getD j 0 = ws.getD (p + j) 0 := by
  simp [List.getD, hj]
theorem Ia {ws : List Int} {p : Nat} (h : p + 1 + hK (ws.getD p 0) ≤ ws.length) : (Be ws p).length = hK (ws.getD p 0) := by
  unfold Be
  generalize hK (ws.getD p 0) = m at h ⊢
  simp; omega
theorem Rd.kids {B : Nat} {w : World} {b off cap : Nat} {ws : List Int} (hB : b < B) (hbs : b < w.heap.size) (hc : ∀ j, j < ws.length → w.cell? ⟨b, off + j, none⟩ = some (.int .i64 (ws.getD j 0))) (p : Nat) (c : Nat) (h : p + 1 + hK (ws.getD p 0) ≤ ws.length) (hm : ws.length ≤ maxLen) (q : Nat) (hq : q = off + (p + 1)) (m : Nat) (hmm : m = hK (ws.getD p 0)) (hmc : m ≤ c) :
    Rd B .i64 w (.slice (some ⟨b, q, none⟩) m c) (Be ws p) := by
  subst hq
  subst hmm
  have hl := Ia h
  refine .inr ⟨b, off + (p + 1), c, by rw [hl], hB, hbs, ⟨by omega, by omega⟩, fun j hj => ?_⟩
  rw [hl] at hj
  rw [Dp, hc (p + 1 + j) (by omega)]
  unfold Be
  rw [Jk _ _ _ _ hj]
theorem Jl {ws : List Int} {ps : List Nat} {k : Nat} (h : ∀ j, j < k → (Be ws (ps.getD j 0)).all (AA ps) = true) (he : (Be ws (ps.getD k 0)).all (AA ps) = true) : ∀ j, j < k + 1 → (Be ws (ps.getD j 0)).all (AA ps) = true := by
  intro j hj
  by_cases e : j = k
  · subst e; exact he
  · exact h j (by omega)
theorem LX {ws : List Int} {ps : List Nat} (h : ∀ j, j < ps.length → (Be ws (ps.getD j 0)).all (AA ps) = true) : EY ws ps = true := by
  unfold EY
  rw [BA]
  intro x hx
  obtain ⟨i, hi, he⟩ := DG hx
  have := h i hi
  simpa [List.getD, Ay hi, he] using this
theorem Jm {ws : List Int} {ps : List Nat} {k : Nat} (hk : k < ps.length) (h : (Be ws (ps.getD k 0)).all (AA ps) = false) : EY ws ps = false := by
  unfold EY
  rw [Ec]
  exact ⟨ps.getD k 0, by simp [List.getD, Ay hk], by rw [h]; simp⟩
theorem Jn (ps : List Nat) (k : Nat) : (AS ps).getD k 0 = ((ps.getD k 0 : Nat) : Int) := by
  simp only [AS, List.getD, GS]
  cases ps[k]? <;> simp
theorem Fs (ps : List Nat) : ps.map ofN = (AS ps).map (Value.int .i64) := by simp [AS, ofN, Function.comp_def]
theorem Ib {ws : List Int} {h b n : Nat} {ps : List Nat} (hp : Cz ws b n = some ps) (hF : Frame ws h b n) : ps.length ≤ 4294967296 := by
  have h1 := Gx _ _ _ hp
  have h2 := Jg _ _ _ hp
  have h3 : ps.length ≤ n := by
    have := List.Nodup.length_le_of_subset (l₁ := ps) (l₂ := List.range n) (h2.imp (fun h => Nat.ne_of_lt h)) (fun q hq => by simpa using (h1 q hq).2.1)
    simpa using this
  have := hF.n1; have := hF.h1; have := hF.base
  omega
theorem LY {ps : List Nat} {k : Nat} (hk : k < ps.length) : ps.getD k 0 ∈ ps := by simp [List.getD, Ay hk]
theorem LZ {B : Nat} (v : Value) (ws : List Int) (h b n : Int) (w : World) (hr : Rd B .i64 w v ws) (hw : EI ws) (hlen : ws.length ≤ 4294967296)
    (bh : -9223372036854775808 ≤ h ∧ h ≤ 9223372036854775807) (bb : -9223372036854775808 ≤ b ∧ b ≤ 9223372036854775807) (bn : -9223372036854775808 ≤ n ∧ n ≤ 9223372036854775807) :
    Calls Pq 138 #[.agg #[v, .int .i64 h, .int .i64 b, .int .i64 n]] w fun e w' => e = .returned (.bool (Cf ws h b n)) ∧ Below w.heap.size w w' := by
  obtain ⟨h0, h1⟩ := bh
  obtain ⟨b0, b1⟩ := bb
  obtain ⟨n0, n1⟩ := bn
  have hr' := hr
  obtain ⟨a, cap, rfl⟩ := hr.form
  clear hr
  cases c1 : inB h 1 3000
  · have HF := Aa (EZ (ws := ws) (b := b) (n := n) (LR c1))
    clear hr' hw
    go_enter Tryz.func138, Tryz.ntmps138
    go_wp2_with (go_at_call 77; refine (A8 _ _ _ _).mono ?_; rintro e w' ⟨rfl, rfl⟩)
    go_ret
    exact ⟨Ac HF.out.symm, (Ab _ _).alloc (Ad _) _⟩
  · obtain ⟨h2, h3⟩ := Ct.1 c1
    by_cases c2 : (ws.length : Int) = 2 * h
    · have e2 : ((ws.length : Int) != 2 * h) = false := by simpa using c2
      by_cases c3 : b = 0 ∨ b = h
      · cases c4 : inB n b (b + h)
        · have HF := Aa (EZ (ws := ws) (LV c4))
          have main : (b != 0) = false ∨ ((b != 0) = true ∧ (b != h) = false) := by
            by_cases e : b = 0
            · left; simpa using e
            · right; exact ⟨by simpa using e, by simp; omega⟩
          have hb2 : 0 ≤ b := by omega
          have hb3 : b ≤ 3000 := by omega
          clear hr' hw c3 c2
          rcases main with e3 | ⟨e3, e4⟩
          all_goals
            go_enter Tryz.func138, Tryz.ntmps138
            go_wp2_with (go_at_call 77; refine (A8 _ _ _ _).mono ?_; rintro e w' ⟨rfl, rfl⟩)
            go_ret
            exact ⟨Ac HF.out.symm, (Ab _ _).alloc (Ad _) _⟩
        · have hFr := LW c1 c2 c3 c4
          obtain ⟨h', b', n', rfl, rfl, rfl, hF⟩ := Jh hFr
          have main : ((b' : Int) != 0) = false ∨ (((b' : Int) != 0) = true ∧ ((b' : Int) != (h' : Int)) = false) := by
            by_cases e : (b' : Int) = 0
            · left; simpa using e
            · right; exact ⟨by simpa using e, by simp; omega⟩
          have HFr := Aa hFr
          have hS := fun (W : World) (hb : Below w.heap.size w W) => JK _ ws h' b' n' W (hr'.below' hb) hw hF
          have HS := Aa hS
          have hb3 : b' ≤ 3000 := by omega
          clear c2 c3 hFr hS
          rcases main with e3 | ⟨e3, e4⟩
          all_goals
            go_enter Tryz.func138, Tryz.ntmps138
            go_wp2_with (go_at_call 77; refine (A8 _ _ _ _).mono ?_; rintro e w' ⟨rfl, rfl⟩)
            generalize hx : w.alloc _ = x1
            obtain ⟨bx1, k1⟩ := Bx.alloc hx
            clear hx
            refine (HS.out x1 bx1).mono ?_
            rintro e w1 ⟨ht, b1⟩
            replace k1 := k1.below b1 k1.1
            have b2 := bx1.trans (b1.mono bx1.size)
            have z1 := k1.1
            clear bx1
            cases hp : Cz ws b' n' with
            | none =>
              rw [hp] at ht
              obtain ⟨ua, un, uc, rfl⟩ := ht
              have HN := Aa (Ji (h := h') hp)
              go_wp2
              go_ret
              exact ⟨Ac HN.out.symm, b2.alloc (At (by omega) b2.size) _⟩
            | some ps =>
              rw [hp] at ht
              obtain ⟨u, rfl, ho⟩ := ht
              rw [Fs] at ho
              have hps := Gx _ _ _ hp
              have hsrt := Jg _ _ _ hp
              have hpl : ps.length ≤ 4294967296 := Ib hp hF
              have ru := Rd.of_own (by rw [← Ep] at ho; exact ho)
              have HN := Aa (Jj HFr.out hp)
              obtain ⟨ua, uc, rfl⟩ := ru.form
              have q1 := k1.2.1
              clear ho HS hp
              go_wp2_with fail
              generalize hx : w1.alloc _ = x2
              obtain ⟨bx2, k2⟩ := Bx.alloc hx
              clear hx q1
              replace k1 := k1.below bx2 z1
              replace ru := ru.below bx2 (Ad _)
              have b3 := b2.trans (bx2.mono b2.size)
              have rw2 := hr'.below' b3
              have hnl := Ep ps
              have HL := Aa hnl
              have q1 := k1.2.1
              have q2 := k2.2.1
              have y1 := k1.1
              have y2 := k2.1
              clear bx2 hr' b1 b2 hnl
              have hn3 : (AS ps).length ≤ 4294967296 := by rw [HL.out]; exact hpl
              rcases rw2 with ⟨hnil, _⟩ | ⟨bl, off, cap', hsl, hB, hbs, hm, hc⟩
              · have h9 := hF.len; have := hF.h0; rw [hnil] at h9; simp at h9; omega
              cases hsl
              go_loop [58] (fun i => ∃ k : Nat, k ≤ (AS ps).length ∧ i = .int .i64 k ∧ Hid (∀ j, j < k → (Be ws (ps.getD j 0)).all (AA ps) = true)) (fun i => (AS ps).length - (intOf i).toNat)
              case atStart => exact ⟨0, Ao _, rfl, fun j hj => by omega⟩
              case round =>
                obtain ⟨k, hk, rfl, hd⟩ := hrel
                by_cases hlt : k < (AS ps).length
                · have hlt' : k < ps.length := by rw [← HL.out]; exact hlt
                  obtain ⟨p, hpe⟩ : ∃ p, ps.getD k 0 = p := ⟨_, rfl⟩
                  obtain ⟨hp1, hp2, hp3, hp4⟩ := hps p (by rw [← hpe]; exact LY hlt')
                  have ru' := ru
                  rcases ru with ⟨hnil, _⟩ | ⟨bl2, off2, cap2, hsl2, _, hbs2, _, hc2⟩
                  · rw [hnil] at hlt; simp at hlt
                  cases hsl2
                  have c1 := hc2 k hlt
                  rw [Jn, hpe] at c1
                  have hpw : p < ws.length := by have := hF.len; have := hF.base; have := hF.n1; omega
                  have c2 := hc p hpw
                  have hfit : p + 1 + hK (ws.getD p 0) ≤ ws.length := by have := hF.len; have := hF.base; have := hF.n1; omega
                  have hkid := fun q c m hq hmm hmc => Rd.kids (B := w.heap.size) (cap := c) hB hbs hc p c hfit hm.1 q hq m hmm hmc
                  obtain ⟨hm1, hm2⟩ := hm
                  have hcon := fun u hu => PC (B' := w.heap.size) w1.heap.size _ u ps (Be ws p) x2 ru' hsrt hpl (by simpa using q2 0) hu
                  have HK := Aa hkid
                  have HC := Aa hcon
                  obtain ⟨x, hxx⟩ : ∃ x, ws.getD p 0 = x := ⟨_, rfl⟩
                  have hxb := hw p
                  rw [hxx] at c2 hp3 hxb hfit
                  obtain ⟨hx0, hx1⟩ := hxb
                  have hkn := FP x
                  have HKN := Aa hkn
                  have hkb := DY x
                  rw [← hkn] at hkb
                  obtain ⟨hkb1, hkb2⟩ := hkb
                  have HX := Aa hxx
                  have HP := Aa hpe
                  clear hkid hcon hc hc2 hps hw hxx hpe hkn
                  go_wp2_with fail
                  refine (Gw _ _ hp3 hx1).mono ?_
                  rw [← HKN.out]
                  rintro e w' ⟨rfl, rfl⟩
                  by_cases hcp : cap = p + 1
                  · have h0 : hK x = 0 := by omega
                    have hrd : Rd w.heap.size .i64 x2 (.slice (some ⟨bl, off, none⟩) (hK x) 0) (Be ws p) := .inl ⟨by unfold Be; rw [HX.out, h0]; simp, some ⟨bl, off, none⟩, 0, by rw [h0]⟩
                    have HRD := Aa hrd
                    clear h0 hrd
                    subst hcp
                    cases hall : (Be ws p).all (AA ps)
                    all_goals
                      go_wp2_with fail
                      refine (HC.out _ HRD.out).mono ?_
                      rintro e w' ⟨rfl, rfl⟩
                      rw [hall]
                      go_wp2
                      first
                        | (go_ret; exact ⟨Ac (by rw [HN.out]; symm; exact Jm hlt' (by rw [HP.out]; exact hall)), b3⟩)
                        | (go_round
                           case rel => exact ⟨k + 1, hlt, by go_num, Jl hd.out (by rw [HP.out]; exact hall)⟩
                           case measure => simp [intOf]; omega)
                  · cases hall : (Be ws p).all (AA ps)
                    all_goals
                      go_wp2_with fail
                      refine (HC.out _ (HK.out _ _ _ (by omega) (by rw [HX.out]) (by omega))).mono ?_
                      rintro e w' ⟨rfl, rfl⟩
                      rw [hall]
                      go_wp2
                      first
                        | (go_ret; exact ⟨Ac (by rw [HN.out]; symm; exact Jm hlt' (by rw [HP.out]; exact hall)), b3⟩)
                        | (go_round
                           case rel => exact ⟨k + 1, hlt, by go_num, Jl hd.out (by rw [HP.out]; exact hall)⟩
                           case measure => simp [intOf]; omega)
                · go_wp2
                  go_ret
                  exact ⟨Ac (by rw [HN.out]; symm; exact LX (fun j hj => hd.out j (by rw [HL.out] at hlt; omega))), b3⟩
      · have e3 : (b != 0) = true := by simp; omega
        have e4 : (b != h) = true := by simp; omega
        have HF := Aa (EZ (ws := ws) (n := n) (LU (h := h) (b := b) (by omega) (by omega)))
        clear hr' hw c3 c2
        go_enter Tryz.func138, Tryz.ntmps138
        go_wp2_with (go_at_call 77; refine (A8 _ _ _ _).mono ?_; rintro e w' ⟨rfl, rfl⟩)
        go_ret
        exact ⟨Ac HF.out.symm, (Ab _ _).alloc (Ad _) _⟩
    · have e2 : ((ws.length : Int) != 2 * h) = true := by simpa using c2
      have HF := Aa (EZ (b := b) (n := n) (LS c2))
      clear hr' hw c2
      go_enter Tryz.func138, Tryz.ntmps138
      go_wp2_with (go_at_call 77; refine (A8 _ _ _ _).mono ?_; rintro e w' ⟨rfl, rfl⟩)
      go_ret
      exact ⟨Ac HF.out.symm, (Ab _ _).alloc (Ad _) _⟩
theorem Jo {B:Nat}(v:Value) (ws:List Int) (h b n:Int) (w:World) (hr:Rd B .i64 w v ws) (hw:EI ws) (hlen:ws.length≤4294967296)
  (bh:-9223372036854775808≤h∧h≤9223372036854775807) (bb:-9223372036854775808≤b∧b≤9223372036854775807) (bn:-9223372036854775808≤n∧n≤9223372036854775807):
  Calls Pq 64 #[.agg #[v,.int .i64 h,.int .i64 b,.int .i64 n]] w fun e w'=>e= .returned (.bool (Cf ws h b n))∧Below w.heap.size w w':=by
 obtain⟨h0,h1⟩:=bh;obtain⟨b0,b1⟩:=bb;obtain⟨n0,n1⟩:=bn;have hr':=hr;obtain⟨a,cap,rfl⟩:=hr.form;clear hr;cases c1:inB h 1 3000
 ·have HF:=Aa (EZ (ws:=ws) (b:=b) (n:=n) (LR c1));clear hr' hw;go_enter Tryz.func64,Tryz.ntmps64;go_wp2_with (go_at_call 65;refine(AZ _ _ _ _).mono ?_;rintro e w' ⟨rfl,rfl⟩);go_ret;exact⟨Ac HF.out.symm,(Ab _ _).alloc (Ad _) _⟩
 ·obtain⟨h2,h3⟩:=Ct.1 c1;by_cases c2:(ws.length:Int)=2*h
  ·have e2:((ws.length:Int) !=2*h)=false:=by simpa using c2
   by_cases c3:b=0∨b=h
   ·cases c4:inB n b (b+h)
    ·have HF:=Aa (EZ (ws:=ws) (LV c4));have main:(b !=0)=false∨((b !=0)=true∧(b !=h)=false):=by
      by_cases e:b=0
      ·left;simpa using e
      ·right;exact⟨by simpa using e,by simp;omega⟩
     have hb2:0≤b:=by omega
     have hb3:b≤3000:=by omega
     clear hr' hw c3 c2;rcases main with e3 |⟨e3,e4⟩
     all_goals
      go_enter Tryz.func64,Tryz.ntmps64;go_wp2_with (go_at_call 65;refine(AZ _ _ _ _).mono ?_;rintro e w' ⟨rfl,rfl⟩);go_ret;exact⟨Ac HF.out.symm,(Ab _ _).alloc (Ad _) _⟩
    ·have hFr:=LW c1 c2 c3 c4;obtain⟨h',b',n',rfl,rfl,rfl,hF⟩:=Jh hFr;have main:((b':Int) !=0)=false∨(((b':Int) !=0)=true∧((b':Int) !=(h':Int))=false):=by
      by_cases e:(b':Int)=0
      ·left;simpa using e
      ·right;exact⟨by simpa using e,by simp;omega⟩
     have HFr:=Aa hFr;have hS:=fun(W:World) (hb:Below w.heap.size w W)=>Im _ ws h' b' n' W (hr'.below' hb) hw hF;have HS:=Aa hS;have hb3:b'≤3000:=by omega
     clear c2 c3 hFr hS;rcases main with e3 |⟨e3,e4⟩
     all_goals
      go_enter Tryz.func64,Tryz.ntmps64;go_wp2_with (go_at_call 65;refine(AZ _ _ _ _).mono ?_;rintro e w' ⟨rfl,rfl⟩);generalize hx:w.alloc _=x1;obtain⟨bx1,k1⟩:=Bx.alloc hx;clear hx;refine(HS.out x1 bx1).mono ?_;rintro e w1 ⟨ht,b1⟩;replace k1:=k1.below b1 k1.1;have b2:=bx1.trans (b1.mono bx1.size);have z1:=k1.1;clear bx1;cases hp:Cz ws b' n' with
      |none=>
       rw[hp]at ht;obtain⟨ua,un,uc,rfl⟩:=ht;have HN:=Aa (Ji (h:=h') hp);go_wp2;go_ret;exact⟨Ac HN.out.symm,b2⟩
      |some ps=>
       rw[hp]at ht;obtain⟨u,rfl,ho⟩:=ht;rw[Fs]at ho;have hps:=Gx _ _ _ hp;have hpl:ps.length≤4294967296:=Ib hp hF;have ru:=Rd.of_own (by rw[←Ep]at ho;exact ho);have HN:=Aa (Jj HFr.out hp);obtain⟨ua,uc,rfl⟩:=ru.form;have rw2:=hr'.below' b2;have hnl:=Ep ps;have HL:=Aa hnl;have hn3:(AS ps).length≤4294967296:=by rw[HL.out];exact hpl
       clear ho HS hp hr' b1 hnl;rcases rw2 with ⟨hnil,_⟩ |⟨bl,off,cap',hsl,hB,hbs,hm,hc⟩
       ·have h9:=hF.len;have:=hF.h0;rw[hnil]at h9;simp at h9;omega
       cases hsl
       have ru':=ru;go_wp2_with fail
       go_loopw [5] (fun i wr=>∃k:Nat,k≤ (AS ps).length∧i= .int .i64 k∧Still w1 wr∧Hid (∀j,j < k→(Be ws (ps.getD j 0)).all (AA ps)=true)) (fun i _=>(AS ps).length - (intOf i).toNat)
       case atStart=>exact⟨0,Ao _,rfl,Still.refl _,fun j hj=>by omega⟩
       case round=>
        obtain⟨k,hk,rfl,hst,hd⟩:=hrel;have b4:=hst.below w1.heap.size;have kb:=k1.below b4 k1.1;have q1:=kb.2.1;have rur:=ru.below b4 (Ad _);by_cases hlt:k < (AS ps).length
        ·have hlt':k < ps.length:=by rw[←HL.out];exact hlt
         obtain⟨p,hpe⟩:∃p,ps.getD k 0=p:=⟨_,rfl⟩;obtain⟨hp1,hp2,hp3,hp4⟩:=hps p (by rw[←hpe];exact LY hlt');rcases ru with ⟨hnil,_⟩ |⟨bl2,off2,cap2,hsl2,_,hbs2,_,hc2⟩
         ·rw[hnil]at hlt;simp at hlt
         cases hsl2
         have c1:=(b4.cell (p:=⟨bl2,off2+k,none⟩) hbs2).trans (hc2 k hlt);rw[Jn,hpe]at c1;have hpw:p < ws.length:=by have:=hF.len;have:=hF.base;have:=hF.n1;omega
         have hbs3:bl < w1.heap.size:=Ah hB b2.size;have c2:=(b4.cell (p:=⟨bl,off+p,none⟩) hbs3).trans (hc p hpw);have hfit:p+1+hK (ws.getD p 0)≤ws.length:=by have:=hF.len;have:=hF.base;have:=hF.n1;omega
         have hkl:=Ia hfit;have d1:=hc2 k hlt;rw[Jn,hpe]at d1;have d2:∀j,1≤j→j≤hK (ws.getD p 0)→w1.cell? ⟨bl,off+ (p+j),none⟩=some (.int .i64 ((Be ws p).getD (j - 1) 0)):=by
          intro j h1 h2;rw[hc (p+j) (by omega)];unfold Be;rw[Jk _ _ _ _ (by omega),show p+1+ (j - 1)=p+j from by omega]
         obtain⟨x,hxx⟩:∃x,ws.getD p 0=x:=⟨_,rfl⟩;have hxb:=hw p;rw[hxx]at c2 hp3 hxb hfit hkl d2;obtain⟨hx0,hx1⟩:=hxb;have hge:=(EG.1 hp3).2.1;have hkn:=FP x;have HKN:=Aa hkn;have hkb:=DY x;rw[←hkn]at hkb;obtain⟨hkb1,hkb2⟩:=hkb;have HX:=Aa hxx;have HP:=Aa hpe;have HKL:=Aa hkl;have D1:=Aa d1;have D2:=Aa d2;have hh0:=fun W=>(Fq x W hge hx1).mono fun e w' hh=>(⟨hh.1,hh.2.symm⟩:e=_∧w'=W)
         rw[←hkn]at hh0;have HH:=Aa hh0;clear hc hc2 hps hw hxx hpe hkn hkl d1 d2 hp3 hh0;go_wp2_with fail;go_quiet ((go_at_call 129;exact Az (HH.out _)));have hst2:=hst.trans ⟨nq,rfl⟩;have HST:=Aa hst2;clear hst hst2 b4 kb q1 c1 c2 rur;go_wp2
         go_loopw [9] (fun i wr=>∃j:Nat,1≤j∧j≤hK x+1∧i= .int .i64 j∧Still w1 wr∧Hid (∀t,t < j - 1→AA ps ((Be ws p).getD t 0)=true)) (fun i _=>hK x+1 - (intOf i).toNat)
         case atStart=>exact⟨1,by omega,by omega,rfl,HST.out,fun t ht=>by omega⟩
         case round=>
          obtain⟨j,hj1,hj2,rfl,hst,hd2⟩:=hrel;by_cases hjk:j≤hK x
          ·have b5:=hst.below w1.heap.size;have kb:=k1.below b5 k1.1;have q1:=kb.2.1;have rur:=ru'.below b5 (Ad _);have e1:=(b5.cell (p:=⟨bl2,off2+k,none⟩) hbs2).trans D1.out;have e2:=(b5.cell (p:=⟨bl,off+ (p+j),none⟩) hbs3).trans (D2.out j hj1 hjk);obtain⟨y,hy⟩:∃y,(Be ws p).getD (j - 1) 0=y:=⟨_,rfl⟩;rw[hy]at e2;have HY:=Aa hy;obtain⟨wi,hwi⟩:∃wi,AA ps y=wi:=⟨_,rfl⟩;have hcon:=fun(n:Nat)=>(J6 _ ps y (wr.drewN n) (rur.below (Still.below ⟨n,rfl⟩ _) b5.size)).mono fun e w' hh=>(⟨hh.1,hh.2.symm⟩:e=_∧w'=_)
           rw[hwi]at hcon;have HC:=Aa hcon;have HWI:=Aa hwi;clear hcon hy kb rur hwi;cases wi
           ·go_wp2_with fail;go_quiet ((go_at_call 67;exact Az (HC.out _)));go_wp2;go_ret;exact⟨Ac (by rw[HN.out];symm;refine Jm hlt' ?_;rw[HP.out];exact Gk (k:=j - 1) (by rw[HKL.out];omega) HY.out HWI.out),b2.trans ((hst.trans ⟨_,rfl⟩).below _)⟩
           ·go_wp2_with fail;go_quiet ((go_at_call 67;exact Az (HC.out _)));go_wp2;go_roundw
            case rel=>exact⟨j+1,by omega,by omega,by go_num,hst.trans ⟨_,rfl⟩,by show ∀t,_;rw[show j+1 - 1= (j - 1)+1 from by omega];exact Gm hd2.out (by rw[HY.out];exact HWI.out)⟩
            case measure=>simp[intOf];omega
          ·obtain rfl:j=hK x+1:=by omega
           have hall:(Be ws p).all (AA ps)=true:=Gl (fun t ht=>hd2.out t (by rw[HKL.out]at ht;omega));have HA:=Aa hall;clear hall;go_wp2;go_roundw
           case rel=>exact⟨k+1,hlt,by go_num,hst,Jl hd.out (by rw[HP.out];exact HA.out)⟩
           case measure=>simp[intOf];omega
        ·go_wp2;go_ret;exact⟨Ac (by rw[HN.out];symm;exact LX (fun j hj=>hd.out j (by rw[HL.out]at hlt;omega))),b2.trans (hst.below _)⟩
   ·have e3:(b !=0)=true:=by simp;omega
    have e4:(b !=h)=true:=by simp;omega
    have HF:=Aa (EZ (ws:=ws) (n:=n) (LU (h:=h) (b:=b) (by omega) (by omega)));clear hr' hw c3 c2;go_enter Tryz.func64,Tryz.ntmps64;go_wp2_with (go_at_call 65;refine(AZ _ _ _ _).mono ?_;rintro e w' ⟨rfl,rfl⟩);go_ret;exact⟨Ac HF.out.symm,(Ab _ _).alloc (Ad _) _⟩
  ·have e2:((ws.length:Int) !=2*h)=true:=by simpa using c2
   have HF:=Aa (EZ (b:=b) (n:=n) (LS c2));clear hr' hw c2;go_enter Tryz.func64,Tryz.ntmps64;go_wp2_with (go_at_call 65;refine(AZ _ _ _ _).mono ?_;rintro e w' ⟨rfl,rfl⟩);go_ret;exact⟨Ac HF.out.symm,(Ab _ _).alloc (Ad _) _⟩
theorem Ng {ws:List Int}{h b n:Int}(hok:Cf ws h b n=true):CR ws h b n=true:=by
 unfold Cf at hok;rw[Cd]at hok;exact hok.1
theorem OG {ws:List Int}{h b n:Nat}(hok:Cf ws h b n=true):∃ps,Cz ws b n=some ps:=by
 cases hp:Cz ws b n with
 |none=>rw[Ji hp]at hok;cases hok
 |some ps=>exact⟨ps,rfl⟩
theorem NJ (ws:List Int) (p:Nat):(Be ws p).length≤64:=by
 unfold Be hK;have:=DY (ws.getD p 0);generalize C3 (ws.getD p 0)=m at this ⊢;rw[IG];omega
theorem Bx.apart {g N:Nat}{v:Value}(h1:∀k,v.ownBlock=some k→k < N) (h2:N≤g):some g≠v.ownBlock:=by
 intro h;have:=h1 g h.symm;omega
def El (ws:List Int) (h b n:Int) (rs:List Int):Bool:=
 Cf ws h b n&& (match Cz ws b.toNat n.toNat with |none=>false |some ps=>rs.all (AA ps))
theorem Rb:∀ (ps:List Nat) (a b:Nat),ps.Pairwise (· < ·)→(∀p∈ps,a≤p∧p < b)→ps.length≤b - a:=by
 intro ps;induction ps with
 |nil=>intro a b _ _;simp
 |cons p ps ih=>
  intro a b hs hb;obtain⟨h1,h2⟩:=List.pairwise_cons.1 hs;have h3:=hb p (List.mem_cons_self ..);have h4:=ih (p+1) b h2 (fun q hq=>⟨h1 q hq,(hb q (List.mem_cons_of_mem _ hq)).2⟩);simp only[List.length_cons];omega
theorem Mg {ps:List Nat}{x:Int}(h:AA ps x=true) (he:x%2=0):∃p∈ps,(p:Int)=x/2:=by
 unfold AA at h;rw[Af he]at h
 simpa using h
theorem Mh {ws:List Int}{p j:Nat}(h:j < hK (ws.getD p 0)):(Be ws p).getD j 0=ws.getD (p+ (j+1)) 0:=by
 unfold Be;rw[Jk _ _ _ _ h,show p+1+j=p+ (j+1)by omega]
structure Right (ws:List Int) (h b n:Nat) (ps:List Nat):Prop where
 frame:Frame ws h b n
 some:Cz ws b n=some ps
 fit:EY ws ps=true
theorem Right.of {ws:List Int}{h b n:Int}(hok:Cf ws h b n=true):∃h' b' n':Nat,∃ps,h=h'∧b=b'∧n=n'∧Right ws h' b' n' ps:=by
 obtain⟨h',b',n',rfl,rfl,rfl,hF⟩:=Jh (Ng hok);obtain⟨ps,hp⟩:=OG hok;refine⟨h',b',n',ps,rfl,rfl,rfl,hF,hp,?_⟩;rw[Jj (Ng hok) hp]at hok;exact hok
theorem Right.at_ {ws:List Int}{h b n p:Nat}{ps:List Nat}(hR:Right ws h b n ps) (hp:p∈ps):b≤p∧p < n∧hOk (ws.getD p 0)=true∧p+1+hK (ws.getD p 0)≤n∧(Be ws p).all (AA ps)=true:=by
 obtain⟨h1,h2,h3,h4⟩:=Gx _ _ _ hR.some p hp;refine⟨h1,h2,h3,h4,?_⟩;have:=hR.fit;unfold EY at this;rw[BA]at this;exact this p hp
theorem Right.n_le {ws:List Int}{h b n:Nat}{ps:List Nat}(hR:Right ws h b n ps):n≤ws.length∧ws.length≤6000:=by
 have h1:=hR.frame.len;have h2:=hR.frame.base;have h3:=hR.frame.n1;have h4:=hR.frame.h1;omega
theorem Right.sorted {ws:List Int}{h b n:Nat}{ps:List Nat}(hR:Right ws h b n ps):ps.Pairwise (· < ·):=Jg _ _ _ hR.some
theorem Right.len {ws:List Int}{h b n:Nat}{ps:List Nat}(hR:Right ws h b n ps):ps.length≤n - b:=Rb ps b n hR.sorted (fun p hp=>⟨(hR.at_ hp).1,(hR.at_ hp).2.1⟩)
theorem Mi {ws:List Int}{h b n:Int}{rs:List Int}(hr:Cf ws h b n=false):El ws h b n rs=false:=by simp[El,hr]
theorem GB {ws:List Int}{h b n:Nat}{rs:List Int}{ps:List Nat}(hok:Cf ws h b n=true) (hp:Cz ws b n=some ps):El ws h b n rs=rs.all (AA ps):=by simp[El,hok,hp]
end Go.Proofs.YtifhcbeaiijkcaaGreat
