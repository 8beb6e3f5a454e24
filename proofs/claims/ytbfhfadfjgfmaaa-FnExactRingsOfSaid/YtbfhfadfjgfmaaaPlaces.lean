/- Numbers in descending order: what insertion from the left does, in plain Lean. -/
import Derived.Test.YtbfhfadfjgfmaaaGrow
set_option linter.unusedVariables false
set_option linter.unusedSimpArgs false
set_option linter.unusedSectionVars false
namespace Go.Proofs.Ytbfhfadfjgfmaaa
open Go.RowKit
/-- f with v put at place j, what stood from j on one place further, up to place i. -/
def insAt (f : Nat → Int) (i j : Nat) (v : Int) : Nat → Int := fun p => if p < j then f p else if p = j then v else if p ≤ i then f (p - 1) else f p
/-- The place, at most j, to which v goes: behind the last that is not less. -/
def posF (f : Nat → Int) (v : Int) : Nat → Nat
  | 0 => 0
  | j + 1 => if f j < v then posF f v j else j + 1
def plF (r : Nat → Int) : Nat → Nat → Int
  | 0 => fun _ => 0
  | i + 1 => insAt (plF r i) i (posF (plF r i) (r i) i) (r i)
theorem posF_le (f : Nat → Int) (v : Int) : ∀ j, posF f v j ≤ j
  | 0 => Nat.le_refl _
  | j + 1 => by
    have := posF_le f v j
    simp only [posF]
    split <;> omega
theorem plF_mem (r : Nat → Int) : ∀ i p, p < i → ∃ j, j < i ∧ plF r i p = r j
  | 0, p, h => by omega
  | i + 1, p, h => by
    have h0 := posF_le (plF r i) (r i) i
    simp only [plF, insAt]
    split
    · rename_i h1
      obtain ⟨j, h2, h3⟩ := plF_mem r i p (by omega)
      exact ⟨j, by omega, h3⟩
    · split
      · exact ⟨i, by omega, rfl⟩
      · rename_i h1 h2
        rw [if_pos (by omega)]
        obtain ⟨j, h3, h4⟩ := plF_mem r i (p - 1) (by omega)
        exact ⟨j, by omega, h4⟩
theorem plF_bd {r : Nat → Int} {a b : Int} {n : Nat} (h : ∀ j, j < n → a ≤ r j ∧ r j ≤ b) {i p : Nat} (hi : i ≤ n) (hp : p < i) : a ≤ plF r i p ∧ plF r i p ≤ b := by
  obtain ⟨j, h1, h2⟩ := plF_mem r i p hp
  rw [h2]
  exact h j (by omega)
/-- The array of the program's sort, in round i with the new number at place j. -/
def midF (r : Nat → Int) (i j : Nat) : Nat → Int := fun p => if p ≤ i then insAt (plF r i) i j (r i) p else r p
theorem midF_start (r : Nat → Int) (i p : Nat) : (if p < i then plF r i p else r p) = midF r i i p := by
  unfold midF insAt
  by_cases h : p < i
  · rw [if_pos h, if_pos (by omega), if_pos h]
  · rw [if_neg h]
    by_cases h2 : p = i
    · subst h2; rw [if_pos (Nat.le_refl _), if_neg h, if_pos rfl]
    · rw [if_neg (by omega)]
theorem midF_at (r : Nat → Int) {i j : Nat} (h : j ≤ i) : midF r i j j = r i := by
  unfold midF insAt
  rw [if_pos h, if_neg (by omega), if_pos rfl]
theorem midF_before (r : Nat → Int) {i j : Nat} (h : j + 1 ≤ i) : midF r i (j + 1) j = plF r i j := by
  unfold midF insAt
  rw [if_pos (by omega), if_pos (by omega)]
theorem midF_swap (r : Nat → Int) {i j : Nat} (h : j + 1 ≤ i) : ∀ p, upd (upd (midF r i (j + 1)) (j + 1) (plF r i j)) j (r i) p = midF r i j p := by
  intro p
  simp only [upd, midF, insAt]
  by_cases h1 : p = j
  · subst h1; rw [if_pos rfl, if_pos (by omega), if_neg (by omega), if_pos rfl]
  · rw [if_neg h1]
    by_cases h2 : p = j + 1
    · subst h2; rw [if_pos rfl, if_pos (by omega), if_neg (by omega), if_neg (by omega), if_pos h]; rfl
    · rw [if_neg h2]
      by_cases h3 : p ≤ i
      · simp only [if_pos h3]
        by_cases h4 : p < j
        · rw [if_pos (by omega), if_pos h4]
        · rw [if_neg (by omega), if_neg h2, if_neg h4, if_neg h1]
      · rw [if_neg h3, if_neg h3]
theorem midF_swap2 (r : Nat → Int) {i j : Nat} (h : j + 1 ≤ i) : ∀ p, upd (upd (midF r i (j + 1)) j (r i)) (j + 1) (plF r i j) p = midF r i j p := by
  intro p
  rw [← midF_swap r h p]
  simp only [upd]
  by_cases h1 : p = j
  · rw [if_neg (by omega), if_pos h1, if_pos h1]
  · by_cases h2 : p = j + 1
    · rw [if_pos h2, if_neg h1, if_pos h2]
    · rw [if_neg h2, if_neg h1, if_neg h1, if_neg h2]
theorem midF_end (r : Nat → Int) {i p : Nat} : midF r i (posF (plF r i) (r i) i) p = if p < i + 1 then plF r (i + 1) p else r p := by
  unfold midF
  by_cases h : p ≤ i
  · rw [if_pos h, if_pos (by omega)]; rfl
  · rw [if_neg h, if_neg (by omega)]
end Go.Proofs.Ytbfhfadfjgfmaaa
