/- Contracts of functions of this program, used by the laws of this seat. No condition beyond what each theorem states. -/
import Derived.Test.YtbfhfadfjgfmaaaPools
import Derived.Test.YtbfhfadfjgfmaaaTurn
import Derived.OwnWalk
set_option linter.unusedVariables false
set_option linter.unusedSimpArgs false
set_option linter.unusedSectionVars false
namespace Go.Proofs.Ytbfhfadfjgfmaaa
open Go.RowKit
def sumF (f : Nat → Int) : Nat → Int
  | 0 => 0
  | k + 1 => sumF f k + f k
theorem sumF_bd {f : Nat → Int} {m : Int} : ∀ k, (∀ j, j < k → 0 ≤ f j ∧ f j ≤ m) → 0 ≤ sumF f k ∧ sumF f k ≤ m * k
  | 0, _ => by simp [sumF]
  | k + 1, h => by
    have h1 := sumF_bd k (fun j hj => h j (by omega))
    have h2 := h k (by omega)
    simp only [sumF]
    have : m * ((k + 1 : Nat) : Int) = m * (k : Int) + m := by rw [Int.natCast_add, Int.mul_add]; simp
    omega
theorem pool_le {n : Nat} {x : Nat → Nat → Int} (h : poolB n x = true) : 1 ≤ n ∧ n ≤ 4 := by
  unfold poolB at h
  simp only [Bool.and_eq_true, decide_eq_true_eq] at h
  omega
theorem pool_die {n : Nat} {x : Nat → Nat → Int} (h : poolB n x = true) : ∀ i, i < n → dieB (x i) = true := by
  unfold poolB at h
  simp only [Bool.and_eq_true] at h
  exact (allB_iff _ _).1 h.2
theorem pool_small {n : Nat} {x : Nat → Nat → Int} (h : poolB n x = true) : ∀ i, i < n → Small (x i) := fun i hi => small_of (pool_die h i hi)
noncomputable def loV (n : Nat) (x : Nat → Nat → Int) : Int := if poolB n x then sumF (fun i => x i 0) n else 0
noncomputable def hiV (n : Nat) (x : Nat → Nat → Int) : Int := if poolB n x then sumF (fun i => x i 5) n else 0

end Go.Proofs.Ytbfhfadfjgfmaaa
