/- Contracts of functions of this program, used by the laws of this seat. No condition beyond what each theorem states. -/
import Derived.Test.YthjfnfhadgmglaaDoorPool3
set_option linter.unusedVariables false
set_option linter.unusedSimpArgs false
set_option linter.unusedSectionVars false
namespace Go.Proofs.YthjfnfhadgmglaaDoor
open Go.RowKit
noncomputable def rowB (n : Nat) (x : Nat → Nat → Int) : Bool := (decide ((1 : Int) ≤ (n : Int)) && decide ((n : Int) ≤ 6)) && allB (fun i => dieB (x i)) n

theorem row_le {n : Nat} {x : Nat → Nat → Int} (h : rowB n x = true) : 1 ≤ n ∧ n ≤ 6 := by
  unfold rowB at h
  simp only [Bool.and_eq_true, decide_eq_true_eq] at h
  omega
end Go.Proofs.YthjfnfhadgmglaaDoor
