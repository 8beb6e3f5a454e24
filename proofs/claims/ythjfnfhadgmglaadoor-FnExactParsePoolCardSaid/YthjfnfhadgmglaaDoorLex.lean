/- Contracts of functions of this program, used by the laws of this seat. No condition beyond what each theorem states. -/
import Derived.Test.YthjfnfhadgmglaaDoorBeat
set_option linter.unusedVariables false
set_option linter.unusedSimpArgs false
set_option linter.unusedSectionVars false
namespace Go.Proofs.YthjfnfhadgmglaaDoor
open Go.RowKit

/-- The first difference of two rows of ints, from place k on, n places. -/
def lexI (a b : Nat → Int) : Nat → Nat → Int
  | 0, _ => 0
  | n + 1, k => if cmpI (a k) (b k) = 0 then lexI a b n (k + 1) else cmpI (a k) (b k)
theorem cmpI_zero (x y : Int) : cmpI x y = 0 ↔ x = y := by
  unfold cmpI; split
  · constructor <;> intro h <;> omega
  · split
    · constructor <;> intro h <;> omega
    · constructor <;> intro h <;> omega
theorem cmpI_neg (x y : Int) : cmpI x y < 0 ↔ x < y := by
  unfold cmpI; split
  · constructor <;> intro h <;> omega
  · split
    · constructor <;> intro h <;> omega
    · constructor <;> intro h <;> omega
theorem cmpI_bd (x y : Int) : -1 ≤ cmpI x y ∧ cmpI x y ≤ 1 := by unfold cmpI; split <;> (try split) <;> omega
theorem lexI_step (a b : Nat → Int) {n k : Nat} (hk : k < n) (h : lexI a b n 0 = lexI a b (n - k) k) (e : a k = b k) : lexI a b n 0 = lexI a b (n - (k + 1)) (k + 1) := by
  rw [h, show n - k = (n - (k + 1)) + 1 by omega, lexI, if_pos ((cmpI_zero _ _).2 e)]
theorem lexI_stop (a b : Nat → Int) {n k : Nat} (hk : k < n) (h : lexI a b n 0 = lexI a b (n - k) k) (e : a k ≠ b k) : lexI a b n 0 = cmpI (a k) (b k) := by
  rw [h, show n - k = (n - (k + 1)) + 1 by omega, lexI, if_neg (fun h => e ((cmpI_zero _ _).1 h))]

end Go.Proofs.YthjfnfhadgmglaaDoor
