/- The table of sums, in plain Lean: its entries add up to 6 to the power of the number of dice; what two tables come to. -/
import Derived.Test.YtbfhfadfjgfmaaaTable
import Derived.Test.YtbfhfadfjgfmaaaPow
set_option linter.unusedVariables false
set_option linter.unusedSimpArgs false
set_option linter.unusedSectionVars false
namespace Go.Proofs.Ytbfhfadfjgfmaaa
open Go.RowKit
theorem sumF_succ (f : Nat → Int) (k : Nat) : sumF f (k + 1) = sumF f k + f k := rfl
theorem sumF_congr {f g : Nat → Int} : ∀ k, (∀ j, j < k → f j = g j) → sumF f k = sumF g k
  | 0, _ => rfl
  | k + 1, h => by simp only [sumF]; rw [sumF_congr k (fun j hj => h j (by omega)), h k (by omega)]
theorem sumF_zero : ∀ k, sumF (fun _ => 0) k = 0
  | 0 => rfl
  | k + 1 => by simp only [sumF]; rw [sumF_zero k]; rfl
theorem sumF_upd {f : Nat → Int} {i : Nat} {v : Int} : ∀ k, i < k → sumF (upd f i (f i + v)) k = sumF f k + v
  | 0, h => by omega
  | k + 1, h => by
    simp only [sumF]
    by_cases e : i = k
    · subst e
      have h1 : sumF (upd f i (f i + v)) i = sumF f i := sumF_congr i (fun j hj => by simp only [upd]; rw [if_neg (by omega)])
      rw [h1]; simp [upd]; omega
    · rw [sumF_upd k (by omega)]
      have : upd f i (f i + v) k = f k := by simp only [upd]; rw [if_neg (fun h => e h.symm)]
      rw [this]; omega
theorem addF_sum {d : Nat → Int} {v : Int} {s : Nat} {acc : Nat → Int} (hd : Small d) (hs : s ≤ 90) : ∀ m, m ≤ 6 → sumF (addF d v s acc m) 121 = sumF acc 121 + v * m
  | 0, _ => by simp [addF]
  | m + 1, hm => by
    have h1 := hd m (by omega)
    simp only [addF]
    rw [sumF_upd 121 (by omega), addF_sum hd hs m (by omega)]
    have : v * ((m + 1 : Nat) : Int) = v * (m : Int) + v := by rw [Int.natCast_add, Int.mul_add]; simp
    omega
theorem rowF_sum {d t : Nat → Int} (hd : Small d) (h0 : ∀ i, 0 ≤ t i) (ht : ∀ i, 90 < i → t i = 0) : ∀ s, sumF (rowF d t s) 121 = 6 * sumF t s
  | 0 => by simp only [rowF, sumF_zero]; rfl
  | s + 1 => by
    rw [sumF_succ t s]
    have hI := rowF_sum hd h0 ht s
    have := h0 s
    simp only [rowF]
    split
    · rename_i hp
      have hs : s ≤ 90 := by
        by_cases h : s ≤ 90
        · exact h
        · have := ht s (by omega); omega
      rw [addF_sum hd hs 6 (by omega), hI]; omega
    · rw [hI]; omega
theorem sumF_unit : ∀ k, sumF (fun i => if i = 0 then 1 else 0) (k + 1) = 1
  | 0 => rfl
  | k + 1 => by rw [sumF_succ, sumF_unit k]; simp
theorem tabF_sum {n : Nat} {x : Nat → Nat → Int} (h : ∀ i, i < n → Small (x i)) (h4 : n ≤ 4) : ∀ k, k ≤ n → sumF (tabF x k) 121 = (sixN k : Int)
  | 0, _ => sumF_unit 120
  | k + 1, hk => by
    show sumF (rowF (x k) (tabF x k) 121) 121 = _
    rw [rowF_sum (h k (by omega)) (fun i => (tabF_bd x k i).1) (fun i hi => tabF_far h k (by omega) i (by omega)), tabF_sum h h4 k (by omega)]
    show 6 * (sixN k : Int) = ((sixN k * 6 : Nat) : Int)
    omega
theorem sumF_le {f : Nat → Int} (h : ∀ i, 0 ≤ f i) : ∀ n k, k ≤ n → sumF f k ≤ sumF f n
  | 0, k, hk => by rw [show k = 0 by omega]; exact Int.le_refl _
  | n + 1, k, hk => by
    by_cases e : k = n + 1
    · rw [e]; exact Int.le_refl _
    · have := sumF_le h n k (by omega)
      have := h n
      simp only [sumF]; omega
theorem sixN_le : ∀ k, k ≤ 8 → 1 ≤ sixN k ∧ sixN k ≤ 1679616
  | 0, _ => by decide
  | 1, _ => by decide
  | 2, _ => by decide
  | 3, _ => by decide
  | 4, _ => by decide
  | 5, _ => by decide
  | 6, _ => by decide
  | 7, _ => by decide
  | 8, _ => by decide
theorem sixN_add (a : Nat) : ∀ b, sixN (a + b) = sixN a * sixN b
  | 0 => by simp [sixN]
  | b + 1 => by rw [← Nat.add_assoc]; simp only [sixN]; rw [sixN_add a b, Nat.mul_assoc]
theorem sixN_small {k : Nat} (h : k ≤ 4) : sixN k ≤ 1296 := by
  match k, h with
  | 0, _ => decide
  | 1, _ => decide
  | 2, _ => decide
  | 3, _ => decide
  | 4, _ => decide
/-- Every entry of the table, and every part of its sum, is at most 6 to the power of the number of dice. -/
theorem tabF_part {n : Nat} {x : Nat → Nat → Int} (h : ∀ i, i < n → Small (x i)) (h4 : n ≤ 4) (k : Nat) (hk : k ≤ 121) : 0 ≤ sumF (tabF x n) k ∧ sumF (tabF x n) k ≤ 1296 := by
  have h1 := sumF_le (f := tabF x n) (fun i => (tabF_bd x n i).1) 121 k hk
  have h0 := sumF_le (f := tabF x n) (fun i => (tabF_bd x n i).1) k 0 (by omega)
  rw [tabF_sum h h4 n (by omega)] at h1
  have := sixN_small h4
  simp only [sumF] at h0
  omega
theorem tabF_one {n : Nat} {x : Nat → Nat → Int} (h : ∀ i, i < n → Small (x i)) (h4 : n ≤ 4) (k : Nat) (hk : k < 121) : 0 ≤ tabF x n k ∧ tabF x n k ≤ 1296 := by
  have h1 := (tabF_part h h4 (k + 1) (by omega)).2
  have h2 := (tabF_part h h4 k (by omega)).1
  simp only [sumF] at h1
  have := (tabF_bd x n k).1
  omega
/-- A part of the sum from place a on. -/
theorem sumF_from (f : Nat → Int) (a : Nat) : ∀ m, sumF (fun i => f (a + i)) m = sumF f (a + m) - sumF f a
  | 0 => by simp [sumF]
  | m + 1 => by rw [← Nat.add_assoc]; simp only [sumF]; rw [sumF_from f a m]; omega
/-- The sum, over the first k places, of a's place times b's places below it. -/
def beatF (a b : Nat → Int) : Nat → Int := sumF (fun s => a s * sumF b s)
def levelF (a b : Nat → Int) : Nat → Int := sumF (fun s => a s * b s)
theorem mul_le {a b A B : Int} (ha : 0 ≤ a ∧ a ≤ A) (hb : 0 ≤ b ∧ b ≤ B) : 0 ≤ a * b ∧ a * b ≤ A * B := ⟨Int.mul_nonneg ha.1 hb.1, Int.mul_le_mul ha.2 hb.2 hb.1 (by omega)⟩
theorem beatF_bd {a b : Nat → Int} (ha : ∀ i, i < 121 → 0 ≤ a i ∧ a i ≤ 1296) (hb : ∀ i, i ≤ 121 → 0 ≤ sumF b i ∧ sumF b i ≤ 1296) (k : Nat) (hk : k ≤ 121) : 0 ≤ beatF a b k ∧ beatF a b k ≤ 1679616 * k :=
  sumF_bd (f := fun s => a s * sumF b s) (m := 1679616) k (fun j hj => mul_le (A := 1296) (B := 1296) (ha j (by omega)) (hb j (by omega)))
theorem levelF_bd {a b : Nat → Int} (ha : ∀ i, i < 121 → 0 ≤ a i ∧ a i ≤ 1296) (hb : ∀ i, i < 121 → 0 ≤ b i ∧ b i ≤ 1296) (k : Nat) (hk : k ≤ 121) : 0 ≤ levelF a b k ∧ levelF a b k ≤ 1679616 * k :=
  sumF_bd (f := fun s => a s * b s) (m := 1679616) k (fun j hj => mul_le (A := 1296) (B := 1296) (ha j (by omega)) (hb j (by omega)))
/-- What the inner loop of the reference adds, from place 0 to m. -/
theorem inner_beat (a : Int) (b : Nat → Int) (s : Nat) : ∀ m, sumF (fun y => if y < s then a * b y else 0) m = a * sumF b (min m s)
  | 0 => by simp [sumF]
  | m + 1 => by
    simp only [sumF]
    rw [inner_beat a b s m]
    by_cases h : m < s
    · rw [if_pos h, Nat.min_eq_left (by omega), Nat.min_eq_left (by omega)]; simp only [sumF]; rw [Int.mul_add]
    · rw [if_neg h, Nat.min_eq_right (by omega), Nat.min_eq_right (by omega)]; omega
theorem inner_level (a : Int) (b : Nat → Int) (s : Nat) : ∀ m, sumF (fun y => if y = s then a * b y else 0) m = if s < m then a * b s else 0
  | 0 => by simp [sumF]
  | m + 1 => by
    simp only [sumF]
    rw [inner_level a b s m]
    by_cases h : m = s
    · subst h; rw [if_pos rfl, if_neg (by omega), if_pos (by omega)]; omega
    · rw [if_neg h]
      by_cases h2 : s < m
      · rw [if_pos h2, if_pos (by omega)]; omega
      · rw [if_neg h2, if_neg (by omega)]; rfl
end Go.Proofs.Ytbfhfadfjgfmaaa
