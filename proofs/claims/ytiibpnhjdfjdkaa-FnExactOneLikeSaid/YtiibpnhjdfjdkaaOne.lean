/- One die that is like a pool, in plain Lean. -/
import Derived.Test.YtiibpnhjdfjdkaaTable5
import Derived.Test.YtiibpnhjdfjdkaaPool3
set_option linter.unusedVariables false
set_option linter.unusedSimpArgs false
set_option linter.unusedSectionVars false
namespace Go.Proofs.Ytiibpnhjdfjdkaa
open Go.RowKit
/-- How many faces the first k sums take. -/
def lenF (u : Nat → Nat) (S : Nat) : Nat → Nat
  | 0 => 0
  | k + 1 => lenF u S k + u k / S
/-- The greatest place below K at which no more than i faces lie ahead. -/
def gkF (u : Nat → Nat) (S : Nat) (i : Nat) : Nat → Nat
  | 0 => 0
  | k + 1 => if lenF u S k ≤ i then k else gkF u S i k
def fcF (u : Nat → Nat) (S : Nat) : Nat → Int := fun i => ((gkF u S i 121 : Nat) : Int)
def okS (u : Nat → Nat) (S k : Nat) : Bool := decide (u k % S = 0) && (decide (u k = 0) || decide (k ≤ 30))
theorem lenF_mono (u : Nat → Nat) (S : Nat) {a : Nat} : ∀ b, a ≤ b → lenF u S a ≤ lenF u S b
  | 0, h => by rw [show a = 0 by omega]; exact Nat.le_refl _
  | b + 1, h => by
    by_cases e : a = b + 1
    · rw [e]; exact Nat.le_refl _
    · have := lenF_mono u S b (show a ≤ b by omega)
      simp only [lenF]
      exact Nat.le_trans this (Nat.le_add_right _ _)
theorem gkF_at {u : Nat → Nat} {S i k : Nat} (h1 : lenF u S k ≤ i) (h2 : i < lenF u S (k + 1)) : ∀ K, k < K → gkF u S i K = k
  | 0, h => by omega
  | K + 1, h => by
    simp only [gkF]
    by_cases e : K = k
    · rw [e, if_pos h1]
    · have := lenF_mono u S K (show k + 1 ≤ K by omega)
      rw [if_neg (by omega)]
      exact gkF_at h1 h2 K (by omega)
theorem fcF_at {u : Nat → Nat} {S k m : Nat} (hk : k < 121) (hm : m < u k / S) : fcF u S (lenF u S k + m) = (k : Int) := by
  unfold fcF
  rw [gkF_at (k := k) (by omega) (by simp only [lenF]; omega) 121 hk]
theorem okS_iff {u : Nat → Nat} {S k : Nat} : okS u S k = true ↔ u k % S = 0 ∧ (u k = 0 ∨ k ≤ 30) := by
  unfold okS
  simp
theorem len_sum {u : Nat → Nat} {S : Nat} : ∀ k, (∀ j, j < k → u j % S = 0) → ((S * lenF u S k : Nat) : Int) = sumF (fun s => (u s : Int)) k
  | 0, _ => by simp [lenF, sumF]
  | k + 1, h => by
    have ih := len_sum k (fun j hj => h j (by omega))
    have h2 := Nat.div_add_mod (u k) S
    rw [h k (by omega)] at h2
    simp only [lenF, sumF]
    rw [← ih, Nat.mul_add]
    omega
theorem sum_mono (u : Nat → Nat) {a : Nat} : ∀ b, a ≤ b → sumF (fun s => (u s : Int)) a ≤ sumF (fun s => (u s : Int)) b
  | 0, h => by rw [show a = 0 by omega]; exact Int.le_refl _
  | b + 1, h => by
    by_cases e : a = b + 1
    · rw [e]; exact Int.le_refl _
    · have := sum_mono u b (show a ≤ b by omega)
      simp only [sumF]
      omega
theorem len_le {u : Nat → Nat} {S : Nat} (hS : 0 < S) (hT : sumF (fun s => (u s : Int)) 121 = ((S * 6 : Nat) : Int)) {k : Nat} (hk : k ≤ 121) (h : ∀ j, j < k → okS u S j = true) : lenF u S k ≤ 6 := by
  have h1 := len_sum (u := u) (S := S) k (fun j hj => (okS_iff.1 (h j hj)).1)
  have h2 := sum_mono u 121 hk
  have h3 : S * lenF u S k ≤ S * 6 := by omega
  exact Nat.le_of_mul_le_mul_left h3 hS
theorem len_all {u : Nat → Nat} {S : Nat} (hS : 0 < S) (hT : sumF (fun s => (u s : Int)) 121 = ((S * 6 : Nat) : Int)) (h : ∀ j, j < 121 → okS u S j = true) : lenF u S 121 = 6 := by
  have h1 := len_sum (u := u) (S := S) 121 (fun j hj => (okS_iff.1 (h j hj)).1)
  have h3 : S * lenF u S 121 = S * 6 := by omega
  exact Nat.eq_of_mul_eq_mul_left hS h3
theorem len_tail {u : Nat → Nat} {S : Nat} (h : ∀ j, j < 121 → okS u S j = true) : ∀ k, 31 ≤ k → k ≤ 121 → lenF u S k = lenF u S 31
  | 0, h1, _ => by omega
  | k + 1, h1, h2 => by
    by_cases e : k + 1 = 31
    · rw [e]
    · rw [← len_tail h k (by omega) (by omega)]
      have := (okS_iff.1 (h k (by omega))).2
      simp only [lenF]
      rcases this with q | q
      · rw [q, Nat.zero_div, Nat.add_zero]
      · omega
noncomputable def uF (n : Nat) (x : Nat → Nat → Int) : Nat → Nat := fun s => (tabF x n s).toNat
theorem tab_u (n : Nat) (x : Nat → Nat → Int) : tabF x n = fun s => (uF n x s : Int) := by
  funext s
  have := (tabF_bd x n s).1
  unfold uF
  omega
noncomputable def allOk (n : Nat) (x : Nat → Nat → Int) : Bool := allB (fun s => okS (uF n x) (sixN (n - 1)) s) 121
noncomputable def oneV (n : Nat) (x : Nat → Nat → Int) : Nat → Int := if (poolB n x && allOk n x) then fcF (uF n x) (sixN (n - 1)) else fun _ => 0
theorem allB_no {p : Nat → Bool} {n k : Nat} (hk : k < n) (h : p k = false) : allB p n = false := by
  cases q : allB p n
  · rfl
  · rw [(allB_iff p n).1 q k hk] at h
    cases h
theorem six_S {n : Nat} (h : 1 ≤ n) : sixN n = sixN (n - 1) * 6 := by
  obtain ⟨m, rfl⟩ : ∃ m, n = m + 1 := ⟨n - 1, by omega⟩
  rfl
theorem u_total {n : Nat} {x : Nat → Nat → Int} (g : poolB n x = true) : sumF (fun s => (uF n x s : Int)) 121 = ((sixN (n - 1) * 6 : Nat) : Int) := by
  rw [← tab_u, ← six_S (pool_le g).1]
  exact tabF_sum (pool_small g) (pool_le g).2 n (Nat.le_refl _)
theorem u_le {n : Nat} {x : Nat → Nat → Int} (g : poolB n x = true) {k : Nat} (hk : k < 121) : uF n x k ≤ 1296 := by
  have := tabF_one (pool_small g) (pool_le g).2 k hk
  unfold uF
  omega
end Go.Proofs.Ytiibpnhjdfjdkaa
