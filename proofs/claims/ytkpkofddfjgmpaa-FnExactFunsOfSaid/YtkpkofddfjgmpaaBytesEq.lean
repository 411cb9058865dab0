/- bytes.Equal. -/
import Derived.Test.YtkpkofddfjgmpaaOpen
import Derived.Test.YtkpkofddfjgmpaaFunsOfP
import Derived.Laws.BytesArg
namespace Go.Proofs.Ytkpkofddfjgmpaa
open Go.RowKit
set_option linter.unusedVariables false
set_option linter.unusedSimpArgs false

theorem bytes_same {a b : ByteArray} (h : a.toList = b.toList) : a = b := by
  rw [ByteArray.toList_eq, ByteArray.toList_eq] at h
  exact Go.WideShapes.bytes_inj h
theorem strOf_inj : ∀ {a b : List Int}, bytesOk a → bytesOk b → strOfNums a = strOfNums b → a = b := by
  intro a b ha hb h
  unfold strOfNums at h
  have h2 : a.map (fun n => UInt8.ofNat n.toNat) = b.map (fun n => UInt8.ofNat n.toNat) := by
    simpa using h
  have hl : a.length = b.length := by simpa using congrArg List.length h2
  refine List.ext_getElem hl fun i h1 h3 => ?_
  have h4 := congrArg (fun l => l[i]?) h2
  simp only [List.getElem?_map, List.getElem?_eq_getElem h1, List.getElem?_eq_getElem h3, Option.map_some, Option.some.injEq] at h4
  have ha' := ha i
  have hb' := hb i
  rw [List.getD_eq_getElem?_getD, List.getElem?_eq_getElem h1] at ha'
  rw [List.getD_eq_getElem?_getD, List.getElem?_eq_getElem h3] at hb'
  simp only [Option.getD_some] at ha' hb'
  have h5 := congrArg UInt8.toNat h4
  rw [UInt8.toNat_ofNat_of_lt' (by show _ < 256; omega), UInt8.toNat_ofNat_of_lt' (by show _ < 256; omega)] at h5
  omega
theorem run_conv_rd {B : Nat} {w : World} {v : Value} {b : List Int} (h : Rd B .u8 w v b) : (convert 22 9 v).run Try.prog w = .ok (.string (strOfNums b)) w := by
  rcases h with ⟨rfl, a, cap, rfl⟩ | ⟨bl, off, cap, rfl, _, hbs, _, hc⟩
  · rw [run_convert_bytes_string w _ _ _ _ _ _ Try.underlying22 Try.underlying5 Try.underlying9]
    cases a <;> simp [Conv.bytesToString, loadCells, strOfNums] <;> rfl
  · exact run_convert_bytes_arg w _ _ Try.underlying22 Try.underlying5 bl off b.length cap b rfl hc _ Try.underlying9

set_option maxHeartbeats 400000 in
theorem bytesEqual_any {B B' : Nat} (u v : Value) (a b : List Int) (w : World) (hu : Rd B .u8 w u a) (hv : Rd B' .u8 w v b) (ha : bytesOk a) (hb : bytesOk b) :
    Calls Try.prog 89 #[u, v] w fun e w' => e = .returned (.bool (decide (a = b))) ∧ w = w' := by
  have h1 := run_conv_rd hu
  have h2 := run_conv_rd hv
  clear hu hv
  obtain ⟨q, hq⟩ : ∃ q, decide (a = b) = q := ⟨_, rfl⟩
  rw [hq]
  have h4 : ((strOfNums a).toList == (strOfNums b).toList) = q := by
    rw [← hq]
    by_cases h : a = b
    · subst h; simp
    · rw [decide_eq_false h, beq_eq_false_iff_ne]
      exact fun hh => h (strOf_inj ha hb (bytes_same hh))
  clear hq ha hb
  obtain ⟨s, hs⟩ : ∃ s, strOfNums a = s := ⟨_, rfl⟩
  obtain ⟨t, ht⟩ : ∃ t, strOfNums b = t := ⟨_, rfl⟩
  rw [hs] at h1 h4
  rw [ht] at h2 h4
  clear hs ht
  go_enter Try.func89, Try.ntmps89
  go_wp2
  go_ret
  exact ⟨rfl, rfl⟩

end Go.Proofs.Ytkpkofddfjgmpaa
