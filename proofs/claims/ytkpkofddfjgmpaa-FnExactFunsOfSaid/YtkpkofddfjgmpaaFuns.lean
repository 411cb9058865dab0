/- Slices of functions: what they read as, rows of them that the call owns; szFunS. -/
import Derived.Test.YtkpkofddfjgmpaaFunE
namespace Go.Proofs.Ytkpkofddfjgmpaa
open Go.RowKit
set_option linter.unusedVariables false

structure F2 where
  f : Int
  os : List O3
deriving DecidableEq
def encFV (x : Int × Value) : List Value := [.int .i64 x.1, x.2]
theorem encFV_len (x : Int × Value) : (encFV x).length = 2 := rfl
def fnIn (x : F2) : Prop := (-9223372036854775808 ≤ x.f ∧ x.f ≤ 9223372036854775807) ∧ ∀ o ∈ x.os, o3In o
def AllF (B : Nat) (w : World) (fl : List (Int × Value)) (fs : List F2) : Prop := fl.length = fs.length ∧ ∀ j (h : j < fl.length) (h' : j < fs.length), fl[j].1 = fs[j].f ∧ RdO B w fl[j].2 fs[j].os
/-- a slice of functions reads as fs. -/
def RdF (B : Nat) (w : World) (v : Value) (fs : List F2) : Prop := ∃ fl, RdE encFV 2 B w v fl ∧ AllF B w fl fs

section
variable {B B' : Nat} {w w' : World} {v : Value} {fs : List F2}
theorem RdF.below (h : RdF B w v fs) (hb : Below B' w w') (hB : B ≤ B') : RdF B w' v fs := by
  obtain ⟨fl, h1, h2, h3⟩ := h
  exact ⟨fl, h1.below hb hB, h2, fun j h h' => ⟨(h3 j h h').1, RdE.below (h3 j h h').2 hb hB⟩⟩
theorem RdF.below' (h : RdF B w v fs) (hb : Below w.heap.size w w') : RdF w.heap.size w' v fs := by
  obtain ⟨fl, h1, h2, h3⟩ := h
  exact ⟨fl, h1.below' hb, h2, fun j h h' => ⟨(h3 j h h').1, RdE.below' (h3 j h h').2 hb⟩⟩
theorem RdF.form (h : RdF B w v fs) : ∃ a cap, v = .slice a fs.length cap := by
  obtain ⟨fl, h1, h2, h3⟩ := h
  rw [← h2]
  exact h1.form
theorem RdF.len (h : RdF B w v fs) : fs.length ≤ maxLen := by
  obtain ⟨fl, h1, h2, h3⟩ := h
  rw [← h2]
  exact h1.len
/-- the two cells of a function. -/
theorem RdF.at_ (h : RdF B w v fs) {k : Nat} (hk : k < fs.length) : ∃ b off cap lv, v = .slice (some ⟨b, off, none⟩) fs.length cap ∧ b < B ∧ b < w.heap.size ∧ fs.length ≤ cap ∧
    w.cell? ⟨b, off + k * 2, none⟩ = some (.int .i64 fs[k].f) ∧ w.cell? ⟨b, off + k * 2 + 1, none⟩ = some lv ∧ RdO B w lv fs[k].os := by
  obtain ⟨fl, h1, h2, h3⟩ := h
  have hk2 : k < fl.length := by omega
  obtain ⟨b, off, cap, e1, e2, e3, e4, e5⟩ := RdE.at_ h1 hk2
  obtain ⟨e6, e7⟩ := h3 k hk2 hk
  refine ⟨b, off, cap, fl[k].2, by rw [← h2]; exact e1, e2, e3, by omega, ?_, e5 1 (by decide), e7⟩
  rw [← e6]
  exact e5 0 (by decide)
end

/-- the one's block lies ahead of the other's. -/
def Blk (u v : Value) : Prop := ∀ x y, u.ownBlock = some x → v.ownBlock = some y → x ≠ y
/-- a row of functions, and their rows, that the call owns. -/
def OwnF (base : Nat) (w : World) (v : Value) (fs : List F2) : Prop := ∃ fl : List (Int × Value), w.ownsRow base 34 2 v fs.length (flat encFV fl) ∧ fl.length = fs.length ∧
  (∀ j (h : j < fl.length) (h' : j < fs.length), fl[j].1 = fs[j].f ∧ w.ownsRow base 81 3 fl[j].2 fs[j].os.length (flat O3.enc fs[j].os)) ∧ (∀ x ∈ fl, Blk v x.2) ∧ fl.Pairwise (fun x y => Blk x.2 y.2)
theorem RdF.of_own {base : Nat} {w : World} {v : Value} {fs : List F2} (h : OwnF base w v fs) : RdF w.heap.size w v fs := by
  obtain ⟨fl, h1, h2, h3, _⟩ := h
  refine ⟨fl, RdE.of_own encFV_len (by rw [h2]; exact h1), h2, fun j a b => ⟨(h3 j a b).1, RdE.of_own O3.enc_len (h3 j a b).2⟩⟩
theorem OwnF.below {base : Nat} {w w' : World} {v : Value} {fs : List F2} (h : OwnF base w v fs) (hb : Below w.heap.size w w') : OwnF base w' v fs := by
  obtain ⟨fl, h1, h2, h3, h4⟩ := h
  exact ⟨fl, own_below h1 hb (own_lt h1), h2, fun j a b => ⟨(h3 j a b).1, own_below (h3 j a b).2 hb (own_lt (h3 j a b).2)⟩, h4⟩
theorem OwnF.base {base base' : Nat} {w : World} {v : Value} {fs : List F2} (h : OwnF base w v fs) (hb : base' ≤ base) : OwnF base' w v fs := by
  obtain ⟨fl, h1, h2, h3, h4⟩ := h
  exact ⟨fl, own_base h1 hb, h2, fun j a b => ⟨(h3 j a b).1, own_base (h3 j a b).2 hb⟩, h4⟩
theorem OwnF.form {base : Nat} {w : World} {v : Value} {fs : List F2} (h : OwnF base w v fs) : ∃ a cap, v = .slice a fs.length cap := by
  obtain ⟨fl, h1, _⟩ := h
  exact own_form h1

/-- how many places functions have. -/
def tot (fs : List F2) : Nat := (fs.map (fun x => x.os.length)).sum
theorem tot_take {fs : List F2} {k : Nat} (h : k < fs.length) : tot (fs.take (k + 1)) = tot (fs.take k) + fs[k].os.length := by
  unfold tot
  rw [← List.take_append_getElem h, List.map_append, List.sum_append]
  simp
theorem tot_mem : ∀ {fs : List F2} {x : F2}, x ∈ fs → x.os.length ≤ tot fs := by
  intro fs
  induction fs with
  | nil => intro x h; cases h
  | cons y fs ih =>
    intro x h
    have e : tot (y :: fs) = y.os.length + tot fs := by simp [tot]
    rcases List.mem_cons.1 h with rfl | h
    · omega
    · have := ih h; omega

end Go.Proofs.Ytkpkofddfjgmpaa
