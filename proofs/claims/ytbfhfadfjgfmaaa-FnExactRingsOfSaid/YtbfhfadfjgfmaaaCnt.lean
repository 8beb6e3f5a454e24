/- Counting by places, in plain Lean. -/
import Derived.Test.YtbfhfadfjgfmaaaPlaces
import Derived.Test.YtbfhfadfjgfmaaaRoll
set_option linter.unusedVariables false
set_option linter.unusedSimpArgs false
set_option linter.unusedSectionVars false
namespace Go.Proofs.Ytbfhfadfjgfmaaa
open Go.RowKit
/-- How often each place came up among the first m. -/
def cntF (idx : Nat → Nat) : Nat → Nat → Int
  | 0 => fun _ => 0
  | m + 1 => upd (cntF idx m) (idx m) (cntF idx m (idx m) + 1)
theorem cntF_bd (idx : Nat → Nat) : ∀ m i, 0 ≤ cntF idx m i ∧ cntF idx m i ≤ m
  | 0, i => by simp [cntF]
  | m + 1, i => by
    have h1 := cntF_bd idx m i
    have h2 := cntF_bd idx m (idx m)
    simp only [cntF, upd]
    split <;> omega
theorem cntF_sum (idx : Nat → Nat) (N : Nat) : ∀ m, (∀ j, j < m → idx j < N) → sumF (cntF idx m) N = m
  | 0, _ => by simp only [cntF]; exact sumF_zero N
  | m + 1, h => by
    simp only [cntF]
    rw [sumF_upd N (h m (by omega)), cntF_sum idx N m (fun j hj => h j (by omega))]
    omega
theorem rollF_bd {n : Nat} {x : Nat → Nat → Int} (h : ∀ i, i < n → Small (x i)) (m : Nat) : ∀ p, p < n → 0 ≤ rollF n x m p ∧ rollF n x m p ≤ 30 := fun p hp => h p hp _ (Nat.mod_lt _ (by omega))
/-- The roll with number m, in descending order. -/
def sortedF (n : Nat) (x : Nat → Nat → Int) (m : Nat) : Nat → Int := plF (rollF n x m) n
theorem sortedF_bd {n : Nat} {x : Nat → Nat → Int} (h : ∀ i, i < n → Small (x i)) (m : Nat) : ∀ p, p < n → 0 ≤ sortedF n x m p ∧ sortedF n x m p ≤ 30 := fun p hp => plF_bd (rollF_bd h m) (Nat.le_refl _) hp
def keptI (n : Nat) (x : Nat → Nat → Int) (k m : Nat) : Nat := (sumF (sortedF n x m) k).toNat
def placeI (n : Nat) (x : Nat → Nat → Int) (k m : Nat) : Nat := (sortedF n x m (k - 1)).toNat
theorem keptI_eq {n : Nat} {x : Nat → Nat → Int} (h : ∀ i, i < n → Small (x i)) (h4 : n ≤ 4) {k : Nat} (hk : k ≤ n) (m : Nat) : sumF (sortedF n x m) k = (keptI n x k m : Int) ∧ keptI n x k m ≤ 120 := by
  have := sumF_bd (f := sortedF n x m) (m := 30) k (fun j hj => sortedF_bd h m j (by omega))
  unfold keptI
  omega
theorem placeI_eq {n : Nat} {x : Nat → Nat → Int} (h : ∀ i, i < n → Small (x i)) {k : Nat} (h1 : 1 ≤ k) (hk : k ≤ n) (m : Nat) : sortedF n x m (k - 1) = (placeI n x k m : Int) ∧ placeI n x k m ≤ 30 := by
  have := sortedF_bd h m (k - 1) (by omega)
  unfold placeI
  omega
end Go.Proofs.Ytbfhfadfjgfmaaa
