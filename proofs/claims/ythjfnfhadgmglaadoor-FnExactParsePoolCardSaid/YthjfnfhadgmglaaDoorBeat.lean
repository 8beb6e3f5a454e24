/- Contracts of functions of this program, used by the laws of this seat. No condition beyond what each theorem states. -/
import Derived.Test.YthjfnfhadgmglaaDoorTurn
set_option linter.unusedVariables false
set_option linter.unusedSimpArgs false
set_option linter.unusedSectionVars false
namespace Go.Proofs.YthjfnfhadgmglaaDoor
open Go.RowKit

def cmpI (x y : Int) : Int := if x < y then -1 else if y < x then 1 else 0
/-- Which of the three counts a pair of faces belongs to. -/
def place (x y : Int) : Nat := if y < x then 0 else if x = y then 1 else 2
theorem place_lt (x y : Int) : place x y < 3 := by unfold place; split <;> (try split) <;> omega
theorem cmpI_place (x y : Int) : 1 - cmpI x y = place x y := by
  unfold cmpI place
  by_cases h1 : x < y
  · rw [if_pos h1, if_neg (by omega), if_neg (by omega)]; rfl
  · by_cases h2 : y < x
    · rw [if_neg h1, if_pos h2, if_pos h2]; rfl
    · rw [if_neg h1, if_neg h2, if_neg h2, if_pos (by omega)]; rfl
def cmpRow (x : Int) (b : Nat → Int) (c : Nat → Int) : Nat → Nat → Int
  | 0 => c
  | k + 1 => upd (cmpRow x b c k) (place x (b k)) (cmpRow x b c k (place x (b k)) + 1)
def cmpAll (a b : Nat → Int) : Nat → Nat → Int
  | 0 => fun _ => 0
  | i + 1 => cmpRow (a i) b (cmpAll a b i) 6
theorem cmpRow_bd (x : Int) (b c : Nat → Int) (m : Int) (h : ∀ v, 0 ≤ c v ∧ c v ≤ m) (k v : Nat) : 0 ≤ cmpRow x b c k v ∧ cmpRow x b c k v ≤ m + k := by
  induction k generalizing v with
  | zero => have := h v; simp [cmpRow]; omega
  | succ k ih =>
    simp only [cmpRow, upd]
    split
    · have := ih (place x (b k)); omega
    · have := ih v; omega
theorem cmpAll_bd (a b : Nat → Int) (i v : Nat) : 0 ≤ cmpAll a b i v ∧ cmpAll a b i v ≤ 6 * i := by
  induction i generalizing v with
  | zero => simp [cmpAll]
  | succ i ih =>
    have := cmpRow_bd (a i) b (cmpAll a b i) (6 * i) ih 6 v
    simp only [cmpAll]; omega

end Go.Proofs.YthjfnfhadgmglaaDoor
