/- slices.Sort of at most twelve ints: in ascending order. -/
import Derived.Test.YtbfhfadfjgfmaaaSort4
import Derived.Test.YtbfhfadfjgfmaaaIsDie
set_option linter.unusedVariables false
set_option linter.unusedSimpArgs false
set_option linter.unusedSectionVars false
namespace Go.Proofs.Ytbfhfadfjgfmaaa
open Go.RowKit
/-- The first k numbers in ascending order, the rest as it was. -/
def ngF (r : Nat → Int) : Nat → Int := fun p => - r p
def asF (r : Nat → Int) (k : Nat) : Nat → Int := fun p => - plF (ngF r) k p
theorem ng_swap (r : Nat → Int) {i q : Nat} (h : q + 1 ≤ i) (p : Nat) : upd (upd (fun p => - midF (ngF r) i (q + 1) p) (q + 1) (- plF (ngF r) i q)) q (r i) p = - midF (ngF r) i q p := by
  rw [← midF_swap (ngF r) h p]
  simp only [upd, ngF]
  split
  · omega
  · split <;> rfl
end Go.Proofs.Ytbfhfadfjgfmaaa
