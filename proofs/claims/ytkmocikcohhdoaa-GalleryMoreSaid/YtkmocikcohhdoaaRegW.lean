/- A drawn statement's held condition may be strengthened on the way. No program is named here. -/
import Derived.Test.YtkmocikcohhdoaaRegG
set_option linter.unusedVariables false
set_option linter.unusedSimpArgs false
namespace Go.Proofs.Ytkmocikcohhdoaa
open Go.RowKit Go.Shelf
theorem wpAnyH_weaken {P : Program} {md : Region.Mode} {ops : Array Oper} {Q : Exit → Act → World → Prop} {S S' : World → Prop} (h : ∀ w, S' w → S w) : ∀ (fuel : Nat) (L : Array Bool) (a : Act) (w : World), wpAnyH P md ops Q S' fuel L a w → wpAnyH P md ops Q S fuel L a w
  | 0, _, _, _, hw => hw
  | fuel + 1, _, _, _, hw => ⟨hw.1, fun i hi => wpOp_mono (fun a' w' h' => ⟨h _ h'.1, wpAnyH_weaken h fuel _ _ _ h'.2⟩) (hw.2 i hi)⟩
end Go.Proofs.Ytkmocikcohhdoaa
