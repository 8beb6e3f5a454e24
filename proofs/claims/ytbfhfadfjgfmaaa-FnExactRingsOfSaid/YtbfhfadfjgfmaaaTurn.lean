/- Contracts of functions of this program, used by the laws of this seat. No condition beyond what each theorem states. -/
import Derived.Test.YtbfhfadfjgfmaaaCount
import Derived.StillTailTactics
import Derived.RegionTactic
import Derived.BigRegion
set_option linter.unusedVariables false
set_option linter.unusedSimpArgs false
set_option linter.unusedSectionVars false
namespace Go.Proofs.Ytbfhfadfjgfmaaa
open Go.RowKit

def Small (d : Nat → Int) : Prop := ∀ k, k < 6 → 0 ≤ d k ∧ d k ≤ 30
theorem small_of {d : Nat → Int} (h : dieB d = true) : Small d := fun _ hk => dieB_ok h hk

/-! ### shifted -/
/-! ### opposite -/
def opp (d : Nat → Int) (i : Nat) : Int := d 0 + d 5 - d (5 - i)
/-! ### base -/
def bas (d : Nat → Int) (i : Nat) : Int := d i - d 0
end Go.Proofs.Ytbfhfadfjgfmaaa
