/-
  No cell of these rows narrows 'for every input' (looked for: loops, veiled, ifaces, maps, wideKeys, modest, calm, conditions, laid).
  DERIVED. THE GIVEN ROWS OF THIS SEAT. 8 by the template 'for every input the law returns true; each argument reads behind the call as it read before'; 0 by the template 'total and deterministic' (their statements: YtkpkofddfjgmpaaTotals.lean).
  GIVEN WITH THE SEED: the statements are not yours to turn. If you find one false, say at which input.
  Laid BY PROGRAM, IN A SANDBOX (cutbox-rows.mjs): the forced cells as the released guide's own fill.sh prints them over the translation 4058c8cda7242602… (all of the seat's roots in one cut). By AI agents, Wed Nov 11 2026. No macro, syntax, notation, axiom, sorry.
-/
import Derived.Test.YtkpkofddfjgmpaaChecked
import GoSem.Claim
import GoSem.ClaimJoined
import GoSem.ClaimMapViews
import Derived.JoinedTies
import Derived.KernelRfl
namespace Go.Proofs.Ytkpkofddfjgmpaa
/- THE CELL 'sum', in the pinned program and in every row, IS THE sha256 OF THE DUMP (.gsa) THAT YtkpkofddfjgmpaaProg.lean LOADS. Nothing in Lean hashes anything: it is a label: what it is worth is what the hold of that sum in a sandbox is worth. -/
noncomputable def Try.pinned : Pinned := { name := "ytkpkofddfjgmpaa", sum := "4058c8cda724260225e0d7a447bb27e4255704109c9dfd056ba0eeccb319ca10", checked := Try.checked }
namespace Rows
def none {H : Type} : Left H := { results := [], args := [] }

/-- 'laws.FnWords': WHATEVER THE INPUT: true; the input reads as it did. -/
def fnWordsSpec : ChangeSpec := { name := "fnWords", fn := fun _ => fun
  | [d] => { results := [.lit (.bool true)], args := [d] }
  | _ => none }
def fnWordsRow : OpenClaim := { program := "ytkpkofddfjgmpaa", sum := "4058c8cda724260225e0d7a447bb27e4255704109c9dfd056ba0eeccb319ca10", func := "loop.example/g00323/laws.FnWords", spec := "fnWords", apart := false }
def FnWordsSaid : Prop := fnWordsRow.holds Try.pinned (OpenSpec.ofChange fnWordsSpec)

/-- ITS FALSE NEIGHBOUR: 'it returns false'. Refute it at one input. -/
def fnWordsWrong : ChangeSpec := { name := "fnWords", fn := fun _ => fun
  | [d] => { results := [.lit (.bool false)], args := [d] }
  | _ => none }
def FnWordsWrongFalsely : Prop := fnWordsRow.holds Try.pinned (OpenSpec.ofChange fnWordsWrong)

/-- 'laws.FnExactFunText': WHATEVER THE INPUT: true; the input reads as it did. -/
def fnExactFunTextSpec : ChangeSpec := { name := "fnExactFunText", fn := fun _ => fun
  | [d] => { results := [.lit (.bool true)], args := [d] }
  | _ => none }
def fnExactFunTextRow : OpenClaim := { program := "ytkpkofddfjgmpaa", sum := "4058c8cda724260225e0d7a447bb27e4255704109c9dfd056ba0eeccb319ca10", func := "loop.example/g00323/laws.FnExactFunText", spec := "fnExactFunText", recurses := true, apart := false }
def FnExactFunTextSaid : Prop := fnExactFunTextRow.holds Try.pinned (OpenSpec.ofChange fnExactFunTextSpec)

/-- ITS FALSE NEIGHBOUR: 'it returns false'. Refute it at one input. -/
def fnExactFunTextWrong : ChangeSpec := { name := "fnExactFunText", fn := fun _ => fun
  | [d] => { results := [.lit (.bool false)], args := [d] }
  | _ => none }
def FnExactFunTextWrongFalsely : Prop := fnExactFunTextRow.holds Try.pinned (OpenSpec.ofChange fnExactFunTextWrong)

/-- 'laws.FnExactJudgeNever': WHATEVER THE INPUT: true; the input reads as it did. -/
def fnExactJudgeNeverSpec : ChangeSpec := { name := "fnExactJudgeNever", fn := fun _ => fun
  | [d] => { results := [.lit (.bool true)], args := [d] }
  | _ => none }
def fnExactJudgeNeverRow : OpenClaim := { program := "ytkpkofddfjgmpaa", sum := "4058c8cda724260225e0d7a447bb27e4255704109c9dfd056ba0eeccb319ca10", func := "loop.example/g00323/laws.FnExactJudgeNever", spec := "fnExactJudgeNever", apart := false }
def FnExactJudgeNeverSaid : Prop := fnExactJudgeNeverRow.holds Try.pinned (OpenSpec.ofChange fnExactJudgeNeverSpec)

/-- ITS FALSE NEIGHBOUR: 'it returns false'. Refute it at one input. -/
def fnExactJudgeNeverWrong : ChangeSpec := { name := "fnExactJudgeNever", fn := fun _ => fun
  | [d] => { results := [.lit (.bool false)], args := [d] }
  | _ => none }
def FnExactJudgeNeverWrongFalsely : Prop := fnExactJudgeNeverRow.holds Try.pinned (OpenSpec.ofChange fnExactJudgeNeverWrong)

/-- 'laws.FnExactFunsBytes': WHATEVER THE INPUT: true; the input reads as it did. -/
def fnExactFunsBytesSpec : ChangeSpec := { name := "fnExactFunsBytes", fn := fun _ => fun
  | [d] => { results := [.lit (.bool true)], args := [d] }
  | _ => none }
def fnExactFunsBytesRow : OpenClaim := { program := "ytkpkofddfjgmpaa", sum := "4058c8cda724260225e0d7a447bb27e4255704109c9dfd056ba0eeccb319ca10", func := "loop.example/g00323/laws.FnExactFunsBytes", spec := "fnExactFunsBytes", apart := false }
def FnExactFunsBytesSaid : Prop := fnExactFunsBytesRow.holds Try.pinned (OpenSpec.ofChange fnExactFunsBytesSpec)

/-- ITS FALSE NEIGHBOUR: 'it returns false'. Refute it at one input. -/
def fnExactFunsBytesWrong : ChangeSpec := { name := "fnExactFunsBytes", fn := fun _ => fun
  | [d] => { results := [.lit (.bool false)], args := [d] }
  | _ => none }
def FnExactFunsBytesWrongFalsely : Prop := fnExactFunsBytesRow.holds Try.pinned (OpenSpec.ofChange fnExactFunsBytesWrong)

/-- 'laws.FnExactFunsOf': WHATEVER THE INPUT: true; the input reads as it did. -/
def fnExactFunsOfSpec : ChangeSpec := { name := "fnExactFunsOf", fn := fun _ => fun
  | [d] => { results := [.lit (.bool true)], args := [d] }
  | _ => none }
def fnExactFunsOfRow : OpenClaim := { program := "ytkpkofddfjgmpaa", sum := "4058c8cda724260225e0d7a447bb27e4255704109c9dfd056ba0eeccb319ca10", func := "loop.example/g00323/laws.FnExactFunsOf", spec := "fnExactFunsOf", apart := false }
def FnExactFunsOfSaid : Prop := fnExactFunsOfRow.holds Try.pinned (OpenSpec.ofChange fnExactFunsOfSpec)

/-- ITS FALSE NEIGHBOUR: 'it returns false'. Refute it at one input. -/
def fnExactFunsOfWrong : ChangeSpec := { name := "fnExactFunsOf", fn := fun _ => fun
  | [d] => { results := [.lit (.bool false)], args := [d] }
  | _ => none }
def FnExactFunsOfWrongFalsely : Prop := fnExactFunsOfRow.holds Try.pinned (OpenSpec.ofChange fnExactFunsOfWrong)

/-- 'laws.FnExactVmText': WHATEVER THE INPUT: true; the input reads as it did. -/
def fnExactVmTextSpec : ChangeSpec := { name := "fnExactVmText", fn := fun _ => fun
  | [d] => { results := [.lit (.bool true)], args := [d] }
  | _ => none }
def fnExactVmTextRow : OpenClaim := { program := "ytkpkofddfjgmpaa", sum := "4058c8cda724260225e0d7a447bb27e4255704109c9dfd056ba0eeccb319ca10", func := "loop.example/g00323/laws.FnExactVmText", spec := "fnExactVmText", unfollowed := true, recurses := true, apart := false }
def FnExactVmTextSaid : Prop := fnExactVmTextRow.holds Try.pinned (OpenSpec.ofChange fnExactVmTextSpec)

/-- ITS FALSE NEIGHBOUR: 'it returns false'. Refute it at one input. -/
def fnExactVmTextWrong : ChangeSpec := { name := "fnExactVmText", fn := fun _ => fun
  | [d] => { results := [.lit (.bool false)], args := [d] }
  | _ => none }
def FnExactVmTextWrongFalsely : Prop := fnExactVmTextRow.holds Try.pinned (OpenSpec.ofChange fnExactVmTextWrong)

/-- 'laws.FnExactVmOk': WHATEVER THE INPUT: true; the input reads as it did. -/
def fnExactVmOkSpec : ChangeSpec := { name := "fnExactVmOk", fn := fun _ => fun
  | [d] => { results := [.lit (.bool true)], args := [d] }
  | _ => none }
def fnExactVmOkRow : OpenClaim := { program := "ytkpkofddfjgmpaa", sum := "4058c8cda724260225e0d7a447bb27e4255704109c9dfd056ba0eeccb319ca10", func := "loop.example/g00323/laws.FnExactVmOk", spec := "fnExactVmOk", unfollowed := true, recurses := true, apart := false }
def FnExactVmOkSaid : Prop := fnExactVmOkRow.holds Try.pinned (OpenSpec.ofChange fnExactVmOkSpec)

/-- ITS FALSE NEIGHBOUR: 'it returns false'. Refute it at one input. -/
def fnExactVmOkWrong : ChangeSpec := { name := "fnExactVmOk", fn := fun _ => fun
  | [d] => { results := [.lit (.bool false)], args := [d] }
  | _ => none }
def FnExactVmOkWrongFalsely : Prop := fnExactVmOkRow.holds Try.pinned (OpenSpec.ofChange fnExactVmOkWrong)

/-- 'laws.FnExactVmNew': WHATEVER THE INPUT: true; the input reads as it did. -/
def fnExactVmNewSpec : ChangeSpec := { name := "fnExactVmNew", fn := fun _ => fun
  | [d1, d2, d3] => { results := [.lit (.bool true)], args := [d1, d2, d3] }
  | _ => none }
def fnExactVmNewRow : OpenClaim := { program := "ytkpkofddfjgmpaa", sum := "4058c8cda724260225e0d7a447bb27e4255704109c9dfd056ba0eeccb319ca10", func := "loop.example/g00323/laws.FnExactVmNew", spec := "fnExactVmNew", apart := false }
def FnExactVmNewSaid : Prop := fnExactVmNewRow.holds Try.pinned (OpenSpec.ofChange fnExactVmNewSpec)

/-- ITS FALSE NEIGHBOUR: 'it returns false'. Refute it at one input. -/
def fnExactVmNewWrong : ChangeSpec := { name := "fnExactVmNew", fn := fun _ => fun
  | [d1, d2, d3] => { results := [.lit (.bool false)], args := [d1, d2, d3] }
  | _ => none }
def FnExactVmNewWrongFalsely : Prop := fnExactVmNewRow.holds Try.pinned (OpenSpec.ofChange fnExactVmNewWrong)

/- THE SECOND FORM. 'bulk': how many values and letters a reading holds, each counted each time it is reached (what is shared counts as often as it is met; a slice's spare places count too). A statement '..UptoSaid' is the law's where the arguments, and the package variables that the reading takes, are together of bulk at most 1048576: NARROWER than '..Said'. Prove '..Said' where nothing that the law and all that it calls make is longer than what came in: it says more and counts as full. Else prove '..UptoSaid'. A law counts once. -/
mutual
def uptoBulk {H : Type} : DataW H → Nat
  | .lit (.string bytes) => bytes.length + 1
  | .lit _ => 1
  | .nil => 1
  | .ptr d => uptoBulk d + 1
  | .slice elems spare => uptoBulkAll elems + uptoBulkAll spare + 1
  | .agg parts => uptoBulkAll parts + 1
  | .iface _ d => uptoBulk d + 1
  | .map entries => uptoBulkEntries entries + 1
  | .held _ => 1
def uptoBulkAll {H : Type} : List (DataW H) → Nat
  | [] => 0
  | d :: r => uptoBulk d + uptoBulkAll r
def uptoBulkEntries {H : Type} : List (Lit × DataW H) → Nat
  | [] => 0
  | x :: r => uptoBulkEntry x + uptoBulkEntries r
def uptoBulkEntry {H : Type} : Lit × DataW H → Nat
  | (.string bytes, d) => bytes.length + uptoBulk d + 1
  | (_, d) => uptoBulk d + 1
 end
def uptoSmall : (H : Type) → List (DataW H) → Bool := fun _ ds => decide (uptoBulkAll ds ≤ 1048576)
def OpenSpec.upto (s : _root_.Go.ChangeSpec) : _root_.Go.OpenSpec := { _root_.Go.OpenSpec.ofChange s with cond := some uptoSmall }

/-- 'laws.FnWords', WHERE WHAT IT READS IS OF BULK AT MOST 1048576: true; the input reads as it did. -/
def fnWordsUptoRow : OpenClaim := { program := "ytkpkofddfjgmpaa", sum := "4058c8cda724260225e0d7a447bb27e4255704109c9dfd056ba0eeccb319ca10", func := "loop.example/g00323/laws.FnWords", spec := "fnWords", apart := false, narrowed := true }
def FnWordsUptoSaid : Prop := fnWordsUptoRow.holds Try.pinned (OpenSpec.upto fnWordsSpec)

/-- 'laws.FnExactFunText', WHERE WHAT IT READS IS OF BULK AT MOST 1048576: true; the input reads as it did. -/
def fnExactFunTextUptoRow : OpenClaim := { program := "ytkpkofddfjgmpaa", sum := "4058c8cda724260225e0d7a447bb27e4255704109c9dfd056ba0eeccb319ca10", func := "loop.example/g00323/laws.FnExactFunText", spec := "fnExactFunText", recurses := true, apart := false, narrowed := true }
def FnExactFunTextUptoSaid : Prop := fnExactFunTextUptoRow.holds Try.pinned (OpenSpec.upto fnExactFunTextSpec)

/-- 'laws.FnExactJudgeNever', WHERE WHAT IT READS IS OF BULK AT MOST 1048576: true; the input reads as it did. -/
def fnExactJudgeNeverUptoRow : OpenClaim := { program := "ytkpkofddfjgmpaa", sum := "4058c8cda724260225e0d7a447bb27e4255704109c9dfd056ba0eeccb319ca10", func := "loop.example/g00323/laws.FnExactJudgeNever", spec := "fnExactJudgeNever", apart := false, narrowed := true }
def FnExactJudgeNeverUptoSaid : Prop := fnExactJudgeNeverUptoRow.holds Try.pinned (OpenSpec.upto fnExactJudgeNeverSpec)

/-- 'laws.FnExactFunsBytes', WHERE WHAT IT READS IS OF BULK AT MOST 1048576: true; the input reads as it did. -/
def fnExactFunsBytesUptoRow : OpenClaim := { program := "ytkpkofddfjgmpaa", sum := "4058c8cda724260225e0d7a447bb27e4255704109c9dfd056ba0eeccb319ca10", func := "loop.example/g00323/laws.FnExactFunsBytes", spec := "fnExactFunsBytes", apart := false, narrowed := true }
def FnExactFunsBytesUptoSaid : Prop := fnExactFunsBytesUptoRow.holds Try.pinned (OpenSpec.upto fnExactFunsBytesSpec)

/-- 'laws.FnExactFunsOf', WHERE WHAT IT READS IS OF BULK AT MOST 1048576: true; the input reads as it did. -/
def fnExactFunsOfUptoRow : OpenClaim := { program := "ytkpkofddfjgmpaa", sum := "4058c8cda724260225e0d7a447bb27e4255704109c9dfd056ba0eeccb319ca10", func := "loop.example/g00323/laws.FnExactFunsOf", spec := "fnExactFunsOf", apart := false, narrowed := true }
def FnExactFunsOfUptoSaid : Prop := fnExactFunsOfUptoRow.holds Try.pinned (OpenSpec.upto fnExactFunsOfSpec)

/-- 'laws.FnExactVmText', WHERE WHAT IT READS IS OF BULK AT MOST 1048576: true; the input reads as it did. -/
def fnExactVmTextUptoRow : OpenClaim := { program := "ytkpkofddfjgmpaa", sum := "4058c8cda724260225e0d7a447bb27e4255704109c9dfd056ba0eeccb319ca10", func := "loop.example/g00323/laws.FnExactVmText", spec := "fnExactVmText", unfollowed := true, recurses := true, apart := false, narrowed := true }
def FnExactVmTextUptoSaid : Prop := fnExactVmTextUptoRow.holds Try.pinned (OpenSpec.upto fnExactVmTextSpec)

/-- 'laws.FnExactVmOk', WHERE WHAT IT READS IS OF BULK AT MOST 1048576: true; the input reads as it did. -/
def fnExactVmOkUptoRow : OpenClaim := { program := "ytkpkofddfjgmpaa", sum := "4058c8cda724260225e0d7a447bb27e4255704109c9dfd056ba0eeccb319ca10", func := "loop.example/g00323/laws.FnExactVmOk", spec := "fnExactVmOk", unfollowed := true, recurses := true, apart := false, narrowed := true }
def FnExactVmOkUptoSaid : Prop := fnExactVmOkUptoRow.holds Try.pinned (OpenSpec.upto fnExactVmOkSpec)

/-- 'laws.FnExactVmNew', WHERE WHAT IT READS IS OF BULK AT MOST 1048576: true; the input reads as it did. -/
def fnExactVmNewUptoRow : OpenClaim := { program := "ytkpkofddfjgmpaa", sum := "4058c8cda724260225e0d7a447bb27e4255704109c9dfd056ba0eeccb319ca10", func := "loop.example/g00323/laws.FnExactVmNew", spec := "fnExactVmNew", apart := false, narrowed := true }
def FnExactVmNewUptoSaid : Prop := fnExactVmNewUptoRow.holds Try.pinned (OpenSpec.upto fnExactVmNewSpec)

end Rows
end Go.Proofs.Ytkpkofddfjgmpaa
