/- The table of sums, in plain Lean: spec's l2Table and impl's sums compute 'tabF'. -/
import Derived.Test.YtbfhfadfjgfmaaaMean
set_option linter.unusedVariables false
set_option linter.unusedSimpArgs false
set_option linter.unusedSectionVars false
namespace Go.Proofs.Ytbfhfadfjgfmaaa
open Go.RowKit
/-- The first m faces of d, each shifting v ways from sum s. -/
def addF (d : Nat → Int) (v : Int) (s : Nat) (acc : Nat → Int) : Nat → Nat → Int
  | 0 => acc
  | m + 1 => upd (addF d v s acc m) (s + (d m).toNat) (addF d v s acc m (s + (d m).toNat) + v)
/-- The next table, from the first s places of t. -/
def rowF (d : Nat → Int) (t : Nat → Int) : Nat → Nat → Int
  | 0 => fun _ => 0
  | s + 1 => if 0 < t s then addF d (t s) s (rowF d t s) 6 else rowF d t s
def tabF (x : Nat → Nat → Int) : Nat → Nat → Int
  | 0 => fun i => if i = 0 then 1 else 0
  | k + 1 => rowF (x k) (tabF x k) 121
theorem addF_bd {d : Nat → Int} {v M A : Int} {s : Nat} {acc : Nat → Int} (hv : 0 ≤ v ∧ v ≤ M) (ha : ∀ i, 0 ≤ acc i ∧ acc i ≤ A) (m : Nat) : ∀ i, 0 ≤ addF d v s acc m i ∧ addF d v s acc m i ≤ A + M * m := by
  induction m with
  | zero => intro i; have := ha i; simp [addF]; omega
  | succ m ih =>
    intro i
    have e : M * ((m + 1 : Nat) : Int) = M * (m : Int) + M := by rw [Int.natCast_add, Int.mul_add]; simp
    have h1 := ih i
    have h2 := ih (s + (d m).toNat)
    simp only [addF, upd]
    split <;> omega
theorem rowF_bd {d t : Nat → Int} {M : Int} (hM : 0 ≤ M) (ht : ∀ i, 0 ≤ t i ∧ t i ≤ M) (s : Nat) : ∀ i, 0 ≤ rowF d t s i ∧ rowF d t s i ≤ M * (6 * s : Nat) := by
  induction s with
  | zero => intro i; simp [rowF]
  | succ s ih =>
    intro i
    have e : M * ((6 * (s + 1) : Nat) : Int) = M * ((6 * s : Nat) : Int) + M * 6 := by
      rw [← Int.mul_add]; congr 1
    have h1 := ih i
    simp only [rowF]
    split
    · have := addF_bd (d := d) (s := s) (ht s) ih 6 i
      have e6 : M * ((6 : Nat) : Int) = M * 6 := rfl
      omega
    · have : 0 ≤ M * 6 := by omega
      omega
theorem addF_far {d : Nat → Int} {v : Int} {s : Nat} {acc : Nat → Int} (hd : Small d) {m : Nat} (hm : m ≤ 6) {i : Nat} (hi : s + 30 < i) : addF d v s acc m i = acc i := by
  induction m with
  | zero => rfl
  | succ m ih =>
    have h1 := hd m (by omega)
    simp only [addF, upd]
    rw [if_neg (by omega)]
    exact ih (by omega)
theorem rowF_far {d t : Nat → Int} (hd : Small d) {B : Nat} (ht : ∀ i, B < i → t i = 0) (s : Nat) : ∀ i, B + 30 < i → rowF d t s i = 0 := by
  induction s with
  | zero => intro i _; rfl
  | succ s ih =>
    intro i hi
    simp only [rowF]
    split
    · rename_i h0
      have hs : s ≤ B := by
        by_cases h : s ≤ B
        · exact h
        · have := ht s (by omega); omega
      rw [addF_far hd (by omega) (by omega)]
      exact ih i hi
    · exact ih i hi
theorem tabF_far {n : Nat} {x : Nat → Nat → Int} (h : ∀ i, i < n → Small (x i)) (k : Nat) (hk : k ≤ n) : ∀ i, 30 * k < i → tabF x k i = 0 := by
  induction k with
  | zero => intro i hi; simp only [tabF]; rw [if_neg (by omega)]
  | succ k ih =>
    intro i hi
    exact rowF_far (h k (by omega)) (ih (by omega)) 121 i (by omega)
theorem tabF_bd (x : Nat → Nat → Int) (k : Nat) : ∀ i, 0 ≤ tabF x k i ∧ tabF x k i ≤ ((726 ^ k : Nat) : Int) := by
  induction k with
  | zero => intro i; simp only [tabF]; split <;> simp
  | succ k ih =>
    intro i
    have h := rowF_bd (d := x k) (Int.natCast_nonneg _) ih 121 i
    have e : ((726 ^ (k + 1) : Nat) : Int) = ((726 ^ k : Nat) : Int) * ((6 * 121 : Nat) : Int) := by rw [Nat.pow_succ, Int.natCast_mul]
    rw [e]
    exact h
end Go.Proofs.Ytbfhfadfjgfmaaa
