/- Texts of mine, joined by merge.py. -/
import Derived.Test.YtbfhfadfjgfmaaaLex
import Derived.Test.YtbfhfadfjgfmaaaPart
import Derived.Test.YtbfhfadfjgfmaaaTurn2
/- Contracts of functions of this program, used by the laws of this seat. No condition beyond what each theorem states. -/
set_option linter.unusedVariables false
set_option linter.unusedSimpArgs false
set_option linter.unusedSectionVars false
namespace Go.Proofs.Ytbfhfadfjgfmaaa
open Go.RowKit

theorem cmpI_anti (x y : Int) : cmpI y x = - cmpI x y := by
  unfold cmpI
  by_cases h1 : x < y
  · rw [if_pos h1, if_neg (by omega), if_pos h1]; rfl
  · by_cases h2 : y < x
    · rw [if_pos h2, if_neg h1, if_pos h2]
    · rw [if_neg h1, if_neg h2, if_neg h2, if_neg h1]; rfl
theorem lexI_anti (a b : Nat → Int) (n k : Nat) : lexI b a n k = - lexI a b n k := by
  induction n generalizing k with
  | zero => rfl
  | succ n ih =>
    simp only [lexI]
    rw [cmpI_anti (a k) (b k)]
    by_cases h : cmpI (a k) (b k) = 0
    · rw [if_pos h, if_pos (by omega), ih]
    · rw [if_neg h, if_neg (by omega)]

def pairF (a b : Nat → Int) : Nat → Int := fun i => if i < 6 then a i else b (i - 6)
abbrev pairV (a b : Nat → Int) : Value := .agg (row 12 (I (pairF a b)))
theorem pairA (a b : Nat → Int) : ∀ i, i < 6 → I (pairF a b) (0 + i) = I a i := fun i hi => by simp [I, pairF, hi]
theorem pairB (a b : Nat → Int) : ∀ i, i < 6 → I (pairF a b) (6 + i) = I b i := fun i hi => by simp [I, pairF]; intro h; omega
noncomputable def goodB (a b : Nat → Int) : Bool := dieB a && (dieB b && decide (lexI a b 6 0 ≤ 0))
def opairF (a b : Nat → Int) : Nat → Int := if 0 < lexI a b 6 0 then pairF b a else pairF a b

end Go.Proofs.Ytbfhfadfjgfmaaa

/- Contracts of functions of this program, used by the laws of this seat. No condition beyond what each theorem states. -/
set_option linter.unusedVariables false
set_option linter.unusedSimpArgs false
set_option linter.unusedSectionVars false
namespace Go.Proofs.Ytbfhfadfjgfmaaa
open Go.RowKit
theorem before_ba (a b : Nat → Int) : decide (lexI b a 6 0 < 0) = decide (0 < lexI a b 6 0) := by rw [lexI_anti a b]; simp

noncomputable def bothP (a b : Nat → Int) : Bool := dieB a && dieB b
noncomputable def pairOfV (a b : Nat → Int) : Nat → Int := if bothP a b then opairF a b else fun _ => 0

/-! ### eqPair, toPair -/
theorem splA (a b : Nat → Int) (f : Nat → Value) : ∀ i, i < 12 → splice (splice f 0 6 (I a)) 6 6 (I b) i = I (pairF a b) i := fun i hi => by
  simp only [splice, I, pairF]
  by_cases h : i < 6
  · rw [if_neg (by omega), if_pos (by omega), if_pos h, Nat.sub_zero]
  · rw [if_pos (by omega), if_neg h]
end Go.Proofs.Ytbfhfadfjgfmaaa

/- Contracts of functions of this program, used by the laws of this seat. No condition beyond what each theorem states. -/
set_option linter.unusedVariables false
set_option linter.unusedSimpArgs false
set_option linter.unusedSectionVars false
namespace Go.Proofs.Ytbfhfadfjgfmaaa
open Go.RowKit
theorem le_not (x : Int) : decide (x ≤ 0) = !decide (0 < x) := by
  by_cases h : 0 < x
  · simp [h]
  · simp [h]; omega

end Go.Proofs.Ytbfhfadfjgfmaaa
