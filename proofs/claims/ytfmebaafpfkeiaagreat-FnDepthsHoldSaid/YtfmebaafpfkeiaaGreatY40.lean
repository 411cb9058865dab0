/- Parts of the proof of FnDepthsHold, FnMeant. -/
import Derived.Test.YtfmebaafpfkeiaaGreatY15
set_option linter.unusedVariables false
set_option linter.unusedSimpArgs false
set_option maxRecDepth 1000000
set_option maxHeartbeats 16000000
namespace Go.Proofs.YtfmebaafpfkeiaaGreat
open Go.RowKit
def Iy (c:Int):Bool:=(c !=5)&& (c !=4)
theorem Nk (fv hv sv cv ov:Value) (L:VmL) (w:World):
  Calls Tryz.prog 15 #[vmV fv hv sv cv ov L] w fun e w'=>e= .returned (.bool (Iy L.code))∧Below w.heap.size w w':=by
 unfold vmV;go_enter Tryz.func15,Tryz.ntmps15;go_wp2
 all_goals go_ret
 all_goals exact⟨Aq (by unfold Iy;simp_all),(Below.refl _ _).alloc (Nat.le_refl _) _⟩
end Go.Proofs.YtfmebaafpfkeiaaGreat
