/- How many runs of equal numbers a row has. (This seat has no slices.Compact: the plain part of the text alone.) -/
import Derived.Test.YtbfhfadfjgfmaaaProg
import Derived.Test.YtbfhfadfjgfmaaaInts
import Derived.Test.YtbfhfadfjgfmaaaBase
set_option linter.unusedVariables false
set_option linter.unusedSimpArgs false
set_option linter.unusedSectionVars false
namespace Go.Proofs.Ytbfhfadfjgfmaaa
open Go.RowKit Go.Lib
theorem grown_setCells {w : World} {g : Nat} : ∀ (vs : List Value) (o : Nat) (w' : World), w.grownBy w' (some g) → w.grownBy (w'.setCells g o vs) (some g)
  | [], _, _, h => h
  | v :: r, o, _, h => grown_setCells r (o + 1) _ (grown_set h o v)
/-- How many runs of equal numbers the first k hold. -/
def runN (f : Nat → Int) : Nat → Nat
  | 0 => 0
  | k + 1 => runN f k + (if k = 0 ∨ f k ≠ f (k - 1) then 1 else 0)
theorem runN_le (f : Nat → Int) : ∀ k, runN f k ≤ k
  | 0 => Nat.le_refl _
  | k + 1 => by have := runN_le f k; simp only [runN]; split <;> omega
end Go.Proofs.Ytbfhfadfjgfmaaa
