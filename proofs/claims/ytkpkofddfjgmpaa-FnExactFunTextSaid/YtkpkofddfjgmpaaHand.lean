/- A region that draws its order, walked by hand: what is held may grow on the way. Nothing of the program is named here. -/
import Derived.Deep.RegionHeld3
namespace Go.Proofs.Ytkpkofddfjgmpaa
open Go
set_option linter.unusedVariables false

theorem wpAnyH_up {P : Program} {ops : Array Oper} {Q : Exit → Act → World → Prop} {md : Region.Mode} {S S' : World → Prop} (hS : ∀ w, S' w → S w) :
    ∀ (fuel : Nat) (listed : Array Bool) (a : Act) (w : World), wpAnyH P md ops Q S' fuel listed a w → wpAnyH P md ops Q S fuel listed a w
  | 0, _, _, _, h => h
  | fuel + 1, _, _, _, h => ⟨h.1, fun i hi => wpOp_mono (fun _ _ h' => ⟨hS _ h'.1, wpAnyH_up hS fuel _ _ _ h'.2⟩) (h.2 i hi)⟩

end Go.Proofs.Ytkpkofddfjgmpaa
