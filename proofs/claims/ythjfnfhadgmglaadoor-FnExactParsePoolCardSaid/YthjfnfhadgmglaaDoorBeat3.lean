/- Contracts of functions of this program, used by the laws of this seat. No condition beyond what each theorem states. -/
import Derived.Test.YthjfnfhadgmglaaDoorBeat2
set_option linter.unusedVariables false
set_option linter.unusedSimpArgs false
set_option linter.unusedSectionVars false
namespace Go.Proofs.YthjfnfhadgmglaaDoor
open Go.RowKit

def beatI (a b : Nat → Int) : Int := cmpI (cmpAll a b 6 0) (cmpAll a b 6 2)
def beatB (a b : Nat → Int) : Bool := decide (cmpAll a b 6 2 < cmpAll a b 6 0)
theorem beatI_pos (a b : Nat → Int) : decide (0 < beatI a b) = beatB a b := by
  unfold beatI beatB cmpI
  by_cases h1 : cmpAll a b 6 0 < cmpAll a b 6 2
  · rw [if_pos h1]; simp; omega
  · by_cases h2 : cmpAll a b 6 2 < cmpAll a b 6 0
    · rw [if_neg h1, if_pos h2]; simp [h2]
    · rw [if_neg h1, if_neg h2]; simp; omega

noncomputable def bothD (a b : Nat → Int) : Bool := dieB a && dieB b
noncomputable def compareV (a b : Nat → Int) : Nat → Int := if bothD a b then cmpAll a b 6 else fun _ => 0
noncomputable def beatV (a b : Nat → Int) : Bool := bothD a b && beatB a b
end Go.Proofs.YthjfnfhadgmglaaDoor
