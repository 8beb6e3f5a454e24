/- Contracts of functions of this program, used by the laws of this seat. No condition beyond what each theorem states. -/
import Derived.Test.YtbfhfadfjgfmaaaIsDie
import Derived.Test.YtbfhfadfjgfmaaaEq
set_option linter.unusedVariables false
set_option linter.unusedSimpArgs false
set_option linter.unusedSectionVars false
namespace Go.Proofs.Ytbfhfadfjgfmaaa
open Go.RowKit

/-- How many of the first k faces are v. -/
def cntTo (d : Nat → Int) : Nat → Nat → Int
  | 0 => fun _ => 0
  | k + 1 => upd (cntTo d k) (d k).toNat (cntTo d k (d k).toNat + 1)
theorem cntTo_bd (d : Nat → Int) (k v : Nat) : 0 ≤ cntTo d k v ∧ cntTo d k v ≤ k := by
  induction k generalizing v with
  | zero => simp [cntTo]
  | succ k ih =>
    simp only [cntTo, upd]
    split
    · have := ih (d k).toNat; omega
    · have := ih v; omega
noncomputable def countV (d : Nat → Int) : Nat → Int := if dieB d then cntTo d 6 else fun _ => 0
theorem dieB_ok {d : Nat → Int} (h : dieB d = true) {k : Nat} (hk : k < 6) : 0 ≤ d k ∧ d k ≤ 30 := by
  simp only [dieB, decide_eq_true_eq] at h
  exact (h k hk).1

end Go.Proofs.Ytbfhfadfjgfmaaa
