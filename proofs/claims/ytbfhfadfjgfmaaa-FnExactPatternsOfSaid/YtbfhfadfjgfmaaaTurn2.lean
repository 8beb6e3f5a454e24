/- Contracts of functions of this program, used by the laws of this seat. No condition beyond what each theorem states. -/
import Derived.Test.YtbfhfadfjgfmaaaTurn
set_option linter.unusedVariables false
set_option linter.unusedSimpArgs false
set_option linter.unusedSectionVars false
namespace Go.Proofs.Ytbfhfadfjgfmaaa
open Go.RowKit
noncomputable def oppV (d : Nat → Int) : Nat → Int := if dieB d then opp d else fun _ => 0
noncomputable def basV (d : Nat → Int) : Nat → Int := if dieB d then bas d else fun _ => 0
noncomputable def shiftB (d : Nat → Int) (x : Int) : Bool := dieB d && ((decide (-30 ≤ x) && decide (x ≤ 30)) && dieB fun i => d i + x)
noncomputable def shiftV (d : Nat → Int) (x : Int) : Nat → Int := if shiftB d x then fun i => d i + x else fun _ => 0

end Go.Proofs.Ytbfhfadfjgfmaaa
