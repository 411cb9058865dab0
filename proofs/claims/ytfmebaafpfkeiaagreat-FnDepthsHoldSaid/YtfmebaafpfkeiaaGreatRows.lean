/-
  No cell of these rows narrows 'for every input' (looked for: loops, veiled, ifaces, maps, wideKeys, modest, calm, conditions, laid).
  DERIVED. THE GIVEN ROWS OF THIS SEAT. 6 by the template 'for every input the law returns true; each argument reads behind the call as it read before'; 0 by the template 'total and deterministic' (their statements: YtfmebaafpfkeiaaGreatTotals.lean).
  GIVEN WITH THE SEED: the statements are not yours to turn. If you find one false, say at which input.
  Laid BY PROGRAM, IN A SANDBOX (cutbox-rows.mjs): the forced cells as the released guide's own fill.sh prints them over the translation 0563c90f234ed737… (all of the seat's roots in one cut). By AI agents, Wed Nov 11 2026. No macro, syntax, notation, axiom, sorry.
-/
import Derived.Test.YtfmebaafpfkeiaaGreatChecked
import GoSem.Claim
import GoSem.ClaimJoined
import GoSem.ClaimMapViews
import Derived.JoinedTies
import Derived.KernelRfl
namespace Go.Proofs.YtfmebaafpfkeiaaGreat
/- THE CELL 'sum', in the pinned program and in every row, IS THE sha256 OF THE DUMP (.gsa) THAT YtfmebaafpfkeiaaGreatProg.lean LOADS. Nothing in Lean hashes anything: it is a label: what it is worth is what the hold of that sum in a sandbox is worth. -/
noncomputable def Tryz.pinned : Pinned := { name := "ytfmebaafpfkeiaagreat", sum := "0563c90f234ed737c6af35fd750339fc2a73d08884d0e943ae3a01047f57fe10", checked := Tryz.checked }
namespace Rows
def none {H : Type} : Left H := { results := [], args := [] }

/-- 'laws.FnMeant': WHATEVER THE INPUT: true; the input reads as it did. -/
def fnMeantSpec : ChangeSpec := { name := "fnMeant", fn := fun _ => fun
  | [d] => { results := [.lit (.bool true)], args := [d] }
  | _ => none }
def fnMeantRow : OpenClaim := { program := "ytfmebaafpfkeiaagreat", sum := "0563c90f234ed737c6af35fd750339fc2a73d08884d0e943ae3a01047f57fe10", func := "loop.example/g00323/laws.FnMeant", spec := "fnMeant", inPlace := ["internal/bytealg.IndexByteString"], unfollowed := true, recurses := true, apart := false }
def FnMeantSaid : Prop := fnMeantRow.holds Tryz.pinned (OpenSpec.ofChange fnMeantSpec)

/-- ITS FALSE NEIGHBOUR: 'it returns false'. Refute it at one input. -/
def fnMeantWrong : ChangeSpec := { name := "fnMeant", fn := fun _ => fun
  | [d] => { results := [.lit (.bool false)], args := [d] }
  | _ => none }
def FnMeantWrongFalsely : Prop := fnMeantRow.holds Tryz.pinned (OpenSpec.ofChange fnMeantWrong)

/-- 'laws.FnEnds': WHATEVER THE INPUT: true; the input reads as it did. -/
def fnEndsSpec : ChangeSpec := { name := "fnEnds", fn := fun _ => fun
  | [d] => { results := [.lit (.bool true)], args := [d] }
  | _ => none }
def fnEndsRow : OpenClaim := { program := "ytfmebaafpfkeiaagreat", sum := "0563c90f234ed737c6af35fd750339fc2a73d08884d0e943ae3a01047f57fe10", func := "loop.example/g00323/laws.FnEnds", spec := "fnEnds", inPlace := ["internal/bytealg.IndexByteString"], unfollowed := true, recurses := true, apart := false }
def FnEndsSaid : Prop := fnEndsRow.holds Tryz.pinned (OpenSpec.ofChange fnEndsSpec)

/-- ITS FALSE NEIGHBOUR: 'it returns false'. Refute it at one input. -/
def fnEndsWrong : ChangeSpec := { name := "fnEnds", fn := fun _ => fun
  | [d] => { results := [.lit (.bool false)], args := [d] }
  | _ => none }
def FnEndsWrongFalsely : Prop := fnEndsRow.holds Tryz.pinned (OpenSpec.ofChange fnEndsWrong)

/-- 'laws.FnSizes': WHATEVER THE INPUT: true; the input reads as it did. -/
def fnSizesSpec : ChangeSpec := { name := "fnSizes", fn := fun _ => fun
  | [d] => { results := [.lit (.bool true)], args := [d] }
  | _ => none }
def fnSizesRow : OpenClaim := { program := "ytfmebaafpfkeiaagreat", sum := "0563c90f234ed737c6af35fd750339fc2a73d08884d0e943ae3a01047f57fe10", func := "loop.example/g00323/laws.FnSizes", spec := "fnSizes", inPlace := ["internal/bytealg.IndexByteString"], unfollowed := true, recurses := true, apart := false }
def FnSizesSaid : Prop := fnSizesRow.holds Tryz.pinned (OpenSpec.ofChange fnSizesSpec)

/-- ITS FALSE NEIGHBOUR: 'it returns false'. Refute it at one input. -/
def fnSizesWrong : ChangeSpec := { name := "fnSizes", fn := fun _ => fun
  | [d] => { results := [.lit (.bool false)], args := [d] }
  | _ => none }
def FnSizesWrongFalsely : Prop := fnSizesRow.holds Tryz.pinned (OpenSpec.ofChange fnSizesWrong)

/-- 'laws.FnMovedWhenever': WHATEVER THE INPUT: true; the input reads as it did. -/
def fnMovedWheneverSpec : ChangeSpec := { name := "fnMovedWhenever", fn := fun _ => fun
  | [d] => { results := [.lit (.bool true)], args := [d] }
  | _ => none }
def fnMovedWheneverRow : OpenClaim := { program := "ytfmebaafpfkeiaagreat", sum := "0563c90f234ed737c6af35fd750339fc2a73d08884d0e943ae3a01047f57fe10", func := "loop.example/g00323/laws.FnMovedWhenever", spec := "fnMovedWhenever", inPlace := ["internal/bytealg.IndexByteString"], unfollowed := true, recurses := true, apart := false }
def FnMovedWheneverSaid : Prop := fnMovedWheneverRow.holds Tryz.pinned (OpenSpec.ofChange fnMovedWheneverSpec)

/-- ITS FALSE NEIGHBOUR: 'it returns false'. Refute it at one input. -/
def fnMovedWheneverWrong : ChangeSpec := { name := "fnMovedWhenever", fn := fun _ => fun
  | [d] => { results := [.lit (.bool false)], args := [d] }
  | _ => none }
def FnMovedWheneverWrongFalsely : Prop := fnMovedWheneverRow.holds Tryz.pinned (OpenSpec.ofChange fnMovedWheneverWrong)

/-- 'laws.FnNoRoom': WHATEVER THE INPUT: true; the input reads as it did. -/
def fnNoRoomSpec : ChangeSpec := { name := "fnNoRoom", fn := fun _ => fun
  | [d] => { results := [.lit (.bool true)], args := [d] }
  | _ => none }
def fnNoRoomRow : OpenClaim := { program := "ytfmebaafpfkeiaagreat", sum := "0563c90f234ed737c6af35fd750339fc2a73d08884d0e943ae3a01047f57fe10", func := "loop.example/g00323/laws.FnNoRoom", spec := "fnNoRoom", inPlace := ["internal/bytealg.IndexByteString"], unfollowed := true, recurses := true, apart := false }
def FnNoRoomSaid : Prop := fnNoRoomRow.holds Tryz.pinned (OpenSpec.ofChange fnNoRoomSpec)

/-- ITS FALSE NEIGHBOUR: 'it returns false'. Refute it at one input. -/
def fnNoRoomWrong : ChangeSpec := { name := "fnNoRoom", fn := fun _ => fun
  | [d] => { results := [.lit (.bool false)], args := [d] }
  | _ => none }
def FnNoRoomWrongFalsely : Prop := fnNoRoomRow.holds Tryz.pinned (OpenSpec.ofChange fnNoRoomWrong)

/-- 'laws.FnDepthsHold': WHATEVER THE INPUT: true; the input reads as it did. -/
def fnDepthsHoldSpec : ChangeSpec := { name := "fnDepthsHold", fn := fun _ => fun
  | [d] => { results := [.lit (.bool true)], args := [d] }
  | _ => none }
def fnDepthsHoldRow : OpenClaim := { program := "ytfmebaafpfkeiaagreat", sum := "0563c90f234ed737c6af35fd750339fc2a73d08884d0e943ae3a01047f57fe10", func := "loop.example/g00323/laws.FnDepthsHold", spec := "fnDepthsHold", inPlace := ["internal/bytealg.IndexByteString"], unfollowed := true, recurses := true, apart := false }
def FnDepthsHoldSaid : Prop := fnDepthsHoldRow.holds Tryz.pinned (OpenSpec.ofChange fnDepthsHoldSpec)

/-- ITS FALSE NEIGHBOUR: 'it returns false'. Refute it at one input. -/
def fnDepthsHoldWrong : ChangeSpec := { name := "fnDepthsHold", fn := fun _ => fun
  | [d] => { results := [.lit (.bool false)], args := [d] }
  | _ => none }
def FnDepthsHoldWrongFalsely : Prop := fnDepthsHoldRow.holds Tryz.pinned (OpenSpec.ofChange fnDepthsHoldWrong)

/- THE SECOND FORM. 'bulk': how many values and letters a reading holds, each counted each time it is reached (what is shared counts as often as it is met; a slice's spare places count too). A statement '..UptoSaid' is the law's where the arguments, and the package variables that the reading takes, are together of bulk at most 1048576: NARROWER than '..Said'. Prove '..Said' where nothing that the law and all that it calls make is longer than what came in: it says more and counts as full. Else prove '..UptoSaid'. A law counts once. -/
mutual
def uptoBulk {H : Type} : DataW H → Nat
  | .lit (.string bytes) => bytes.length + 1
  | .lit _ => 1
  | .nil => 1
  | .ptr d => uptoBulk d + 1
  | .slice elems spare => uptoBulkAll elems + uptoBulkAll spare + 1
  | .agg parts => uptoBulkAll parts + 1
  | .iface _ d => uptoBulk d + 1
  | .map entries => uptoBulkEntries entries + 1
  | .held _ => 1
def uptoBulkAll {H : Type} : List (DataW H) → Nat
  | [] => 0
  | d :: r => uptoBulk d + uptoBulkAll r
def uptoBulkEntries {H : Type} : List (Lit × DataW H) → Nat
  | [] => 0
  | x :: r => uptoBulkEntry x + uptoBulkEntries r
def uptoBulkEntry {H : Type} : Lit × DataW H → Nat
  | (.string bytes, d) => bytes.length + uptoBulk d + 1
  | (_, d) => uptoBulk d + 1
 end
def uptoSmall : (H : Type) → List (DataW H) → Bool := fun _ ds => decide (uptoBulkAll ds ≤ 1048576)
def OpenSpec.upto (s : _root_.Go.ChangeSpec) : _root_.Go.OpenSpec := { _root_.Go.OpenSpec.ofChange s with cond := some uptoSmall }

/-- 'laws.FnMeant', WHERE WHAT IT READS IS OF BULK AT MOST 1048576: true; the input reads as it did. -/
def fnMeantUptoRow : OpenClaim := { program := "ytfmebaafpfkeiaagreat", sum := "0563c90f234ed737c6af35fd750339fc2a73d08884d0e943ae3a01047f57fe10", func := "loop.example/g00323/laws.FnMeant", spec := "fnMeant", inPlace := ["internal/bytealg.IndexByteString"], unfollowed := true, recurses := true, apart := false, narrowed := true }
def FnMeantUptoSaid : Prop := fnMeantUptoRow.holds Tryz.pinned (OpenSpec.upto fnMeantSpec)

/-- 'laws.FnEnds', WHERE WHAT IT READS IS OF BULK AT MOST 1048576: true; the input reads as it did. -/
def fnEndsUptoRow : OpenClaim := { program := "ytfmebaafpfkeiaagreat", sum := "0563c90f234ed737c6af35fd750339fc2a73d08884d0e943ae3a01047f57fe10", func := "loop.example/g00323/laws.FnEnds", spec := "fnEnds", inPlace := ["internal/bytealg.IndexByteString"], unfollowed := true, recurses := true, apart := false, narrowed := true }
def FnEndsUptoSaid : Prop := fnEndsUptoRow.holds Tryz.pinned (OpenSpec.upto fnEndsSpec)

/-- 'laws.FnSizes', WHERE WHAT IT READS IS OF BULK AT MOST 1048576: true; the input reads as it did. -/
def fnSizesUptoRow : OpenClaim := { program := "ytfmebaafpfkeiaagreat", sum := "0563c90f234ed737c6af35fd750339fc2a73d08884d0e943ae3a01047f57fe10", func := "loop.example/g00323/laws.FnSizes", spec := "fnSizes", inPlace := ["internal/bytealg.IndexByteString"], unfollowed := true, recurses := true, apart := false, narrowed := true }
def FnSizesUptoSaid : Prop := fnSizesUptoRow.holds Tryz.pinned (OpenSpec.upto fnSizesSpec)

/-- 'laws.FnMovedWhenever', WHERE WHAT IT READS IS OF BULK AT MOST 1048576: true; the input reads as it did. -/
def fnMovedWheneverUptoRow : OpenClaim := { program := "ytfmebaafpfkeiaagreat", sum := "0563c90f234ed737c6af35fd750339fc2a73d08884d0e943ae3a01047f57fe10", func := "loop.example/g00323/laws.FnMovedWhenever", spec := "fnMovedWhenever", inPlace := ["internal/bytealg.IndexByteString"], unfollowed := true, recurses := true, apart := false, narrowed := true }
def FnMovedWheneverUptoSaid : Prop := fnMovedWheneverUptoRow.holds Tryz.pinned (OpenSpec.upto fnMovedWheneverSpec)

/-- 'laws.FnNoRoom', WHERE WHAT IT READS IS OF BULK AT MOST 1048576: true; the input reads as it did. -/
def fnNoRoomUptoRow : OpenClaim := { program := "ytfmebaafpfkeiaagreat", sum := "0563c90f234ed737c6af35fd750339fc2a73d08884d0e943ae3a01047f57fe10", func := "loop.example/g00323/laws.FnNoRoom", spec := "fnNoRoom", inPlace := ["internal/bytealg.IndexByteString"], unfollowed := true, recurses := true, apart := false, narrowed := true }
def FnNoRoomUptoSaid : Prop := fnNoRoomUptoRow.holds Tryz.pinned (OpenSpec.upto fnNoRoomSpec)

/-- 'laws.FnDepthsHold', WHERE WHAT IT READS IS OF BULK AT MOST 1048576: true; the input reads as it did. -/
def fnDepthsHoldUptoRow : OpenClaim := { program := "ytfmebaafpfkeiaagreat", sum := "0563c90f234ed737c6af35fd750339fc2a73d08884d0e943ae3a01047f57fe10", func := "loop.example/g00323/laws.FnDepthsHold", spec := "fnDepthsHold", inPlace := ["internal/bytealg.IndexByteString"], unfollowed := true, recurses := true, apart := false, narrowed := true }
def FnDepthsHoldUptoSaid : Prop := fnDepthsHoldUptoRow.holds Tryz.pinned (OpenSpec.upto fnDepthsHoldSpec)

end Rows
end Go.Proofs.YtfmebaafpfkeiaaGreat
