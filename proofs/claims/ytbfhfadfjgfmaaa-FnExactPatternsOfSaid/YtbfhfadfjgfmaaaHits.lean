/- How many dice of a roll hit a bound: counting the rolls is the convolution. In plain Lean. -/
import Derived.Test.YtbfhfadfjgfmaaaCnt
import Derived.Test.YtbfhfadfjgfmaaaTable5
set_option linter.unusedVariables false
set_option linter.unusedSimpArgs false
set_option linter.unusedSectionVars false
namespace Go.Proofs.Ytbfhfadfjgfmaaa
open Go.RowKit
def hc (r : Nat → Int) (z : Int) : Nat → Nat
  | 0 => 0
  | k + 1 => hc r z k + (if z ≤ r k then 1 else 0)
theorem hc_le (r : Nat → Int) (z : Int) : ∀ k, hc r z k ≤ k
  | 0 => Nat.le_refl _
  | k + 1 => by have := hc_le r z k; simp only [hc]; split <;> omega
theorem hc_congr {r q : Nat → Int} (z : Int) : ∀ k, (∀ j, j < k → r j = q j) → hc r z k = hc q z k
  | 0, _ => rfl
  | k + 1, h => by simp only [hc]; rw [hc_congr z k (fun j hj => h j (by omega)), h k (by omega)]
theorem hc_ins (f : Nat → Int) (i j : Nat) (v z : Int) (hj : j ≤ i) : ∀ k, k ≤ i + 1 → hc (insAt f i j v) z k = if k ≤ j then hc f z k else hc f z (k - 1) + (if z ≤ v then 1 else 0)
  | 0, _ => by simp [hc]
  | k + 1, h => by
    have ih := hc_ins f i j v z hj k (by omega)
    simp only [hc]
    rw [ih]
    by_cases h1 : k + 1 ≤ j
    · rw [if_pos (by omega), if_pos h1]
      have : insAt f i j v k = f k := by unfold insAt; rw [if_pos (by omega)]
      rw [this]
    · rw [if_neg h1]
      by_cases h2 : k = j
      · rw [if_pos (by omega)]
        have : insAt f i j v k = v := by unfold insAt; rw [if_neg (by omega), if_pos h2]
        rw [this]
        rfl
      · rw [if_neg (by omega)]
        have : insAt f i j v k = f (k - 1) := by unfold insAt; rw [if_neg (by omega), if_neg h2, if_pos (by omega)]
        rw [this]
        obtain ⟨q, rfl⟩ : ∃ q, k = q + 1 := ⟨k - 1, by omega⟩
        simp only [Nat.add_sub_cancel, hc]
        omega
theorem hc_plF (r : Nat → Int) (z : Int) : ∀ n, hc (plF r n) z n = hc r z n
  | 0 => rfl
  | n + 1 => by
    simp only [plF]
    rw [hc_ins _ _ _ _ _ (posF_le _ _ _) (n + 1) (Nat.le_refl _), if_neg (by have := posF_le (plF r n) (r n) n; omega)]
    simp only [Nat.add_sub_cancel, hc]
    rw [hc_plF r z n]
def hitI (n : Nat) (x : Nat → Nat → Int) (z : Int) (m : Nat) : Nat := hc (rollF n x m) z n
theorem hitI_le (n : Nat) (x : Nat → Nat → Int) (z : Int) (m : Nat) : hitI n x z m ≤ n := hc_le _ _ _
theorem hitI_sorted (n : Nat) (x : Nat → Nat → Int) (z : Int) (m : Nat) : hc (sortedF n x m) z n = hitI n x z m := hc_plF _ _ _
theorem cntF_succ (idx : Nat → Nat) (m k : Nat) : cntF idx (m + 1) k = cntF idx m k + if k = idx m then 1 else 0 := by
  simp only [cntF, upd]
  split
  · rename_i h; rw [h]
  · omega
theorem roll_old {n : Nat} {x : Nat → Nat → Int} {M j p : Nat} (hj : j < 6) (hp : p < n) : rollF (n + 1) x (6 * M + j) p = rollF n x M p := by
  unfold rollF
  have e : n + 1 - 1 - p = (n - 1 - p) + 1 := by omega
  have e2 : sixN ((n - 1 - p) + 1) = 6 * sixN (n - 1 - p) := by simp only [sixN]; omega
  rw [e, e2, ← Nat.div_div_eq_div_mul, show (6 * M + j) / 6 = M by omega]
theorem roll_new {n : Nat} {x : Nat → Nat → Int} {M j : Nat} (hj : j < 6) : rollF (n + 1) x (6 * M + j) n = x n j := by
  unfold rollF
  have e : n + 1 - 1 - n = 0 := by omega
  rw [e]
  simp only [sixN, Nat.div_one]
  rw [show (6 * M + j) % 6 = j by omega]
theorem hitI_succ {n : Nat} {x : Nat → Nat → Int} {z : Int} {M j : Nat} (hj : j < 6) : hitI (n + 1) x z (6 * M + j) = hitI n x z M + (if z ≤ x n j then 1 else 0) := by
  unfold hitI
  simp only [hc]
  rw [hc_congr z n (fun p hp => roll_old hj hp), roll_new hj]
theorem cnt_six (n : Nat) (x : Nat → Nat → Int) (z : Int) (M k : Nat) : ∀ j, j ≤ 6 → cntF (hitI (n + 1) x z) (6 * M + j) k = cntF (hitI (n + 1) x z) (6 * M) k + (if k = hitI n x z M then ((j : Int) - (hc (x n) z j : Nat)) else if k = hitI n x z M + 1 then ((hc (x n) z j : Nat) : Int) else 0)
  | 0, _ => by simp [hc]
  | j + 1, h => by
    have ih := cnt_six n x z M k j (by omega)
    have e : 6 * M + (j + 1) = (6 * M + j) + 1 := by omega
    rw [e, cntF_succ, ih, hitI_succ (by omega)]
    simp only [hc]
    have hl := hc_le (x n) z j
    obtain ⟨a, ha⟩ : ∃ a, a = hitI n x z M := ⟨_, rfl⟩
    obtain ⟨b, hb⟩ : ∃ b, b = hc (x n) z j := ⟨_, rfl⟩
    rw [← ha, ← hb] at *
    by_cases q : z ≤ x n j
    · simp only [if_pos q]
      split <;> split <;> (try split) <;> omega
    · simp only [if_neg q]
      split <;> split <;> (try split) <;> omega
/-- The convolution, as the reference builds it. -/
def stepF (f : Nat → Int) (h : Int) : Nat → Nat → Int
  | 0 => fun _ => 0
  | m + 1 => upd (upd (stepF f h m) m (stepF f h m m + f m * (6 - h))) (m + 1) (upd (stepF f h m) m (stepF f h m m + f m * (6 - h)) (m + 1) + f m * h)
def hitsF (x : Nat → Nat → Int) (z : Int) : Nat → Nat → Int
  | 0 => upd (fun _ => 0) 0 1
  | i + 1 => stepF (hitsF x z i) (hc (x i) z 6 : Nat) (i + 1)
theorem stepF_val (f : Nat → Int) (h : Int) (k : Nat) : ∀ m, stepF f h m k = (if k < m then f k * (6 - h) else 0) + (if 1 ≤ k ∧ k ≤ m then f (k - 1) * h else 0)
  | 0 => by
    simp only [stepF]
    rw [if_neg (by omega), if_neg (by omega)]
    rfl
  | m + 1 => by
    have ih := stepF_val f h k m
    have ihm := stepF_val f h m m
    simp only [stepF, upd]
    by_cases h1 : k = m + 1
    · subst h1
      rw [if_pos rfl, if_neg (by omega), ih]
      simp only [Nat.add_sub_cancel]
      generalize f m * h = Q
      generalize f (m + 1) * (6 - h) = P
      (repeat' split) <;> omega
    · rw [if_neg h1]
      by_cases h2 : k = m
      · subst h2
        rw [if_pos rfl, ih]
        generalize f (k - 1) * h = Q
        generalize f k * (6 - h) = P
        (repeat' split) <;> omega
      · rw [if_neg h2, ih]
        generalize f (k - 1) * h = Q
        generalize f k * (6 - h) = P
        (repeat' split) <;> omega
theorem ite_mul {p : Prop} [Decidable p] (c h : Int) : (c + if p then 1 else 0) * h = c * h + if p then h else 0 := by
  split
  · rw [Int.add_mul]; omega
  · rw [Int.add_zero, Int.add_zero]
theorem cnt_conv (n : Nat) (x : Nat → Nat → Int) (z : Int) (k : Nat) : ∀ M, cntF (hitI (n + 1) x z) (6 * M) k = cntF (hitI n x z) M k * (6 - (hc (x n) z 6 : Nat)) + (if 1 ≤ k then cntF (hitI n x z) M (k - 1) * (hc (x n) z 6 : Nat) else 0)
  | 0 => by simp [cntF]
  | M + 1 => by
    have ih := cnt_conv n x z k M
    have e : 6 * (M + 1) = 6 * M + 6 := by omega
    rw [e, cnt_six n x z M k 6 (Nat.le_refl _), ih, cntF_succ, cntF_succ]
    obtain ⟨a, ha⟩ : ∃ a, a = hitI n x z M := ⟨_, rfl⟩
    obtain ⟨h, hh⟩ : ∃ h : Int, h = (hc (x n) z 6 : Nat) := ⟨_, rfl⟩
    rw [← ha, ← hh]
    rw [ite_mul, ite_mul]
    generalize cntF (hitI n x z) M k * (6 - h) = P
    generalize cntF (hitI n x z) M (k - 1) * h = Q
    (repeat' split) <;> omega
theorem hits_eq (x : Nat → Nat → Int) (z : Int) : ∀ n k, cntF (hitI n x z) (sixN n) k = hitsF x z n k
  | 0, k => by
    simp only [sixN, hitsF]
    rw [cntF_succ]
    simp only [cntF, hitI, hc, upd]
    (repeat' split) <;> omega
  | n + 1, k => by
    have ih := hits_eq x z n
    have hz : ∀ j, n < j → hitsF x z n j = 0 := fun j hj => by
      rw [← ih]
      have : ∀ m, cntF (hitI n x z) m j = 0 := fun m => by
        induction m with
        | zero => rfl
        | succ m im => rw [cntF_succ, im, if_neg (by have := hitI_le n x z m; omega)]; rfl
      exact this _
    have e : sixN (n + 1) = 6 * sixN n := by simp only [sixN]; omega
    rw [e, cnt_conv, ih, ih]
    simp only [hitsF]
    rw [stepF_val]
    congr 1
    · by_cases h : k < n + 1
      · rw [if_pos h]
      · rw [if_neg h, hz k (by omega)]; simp
    · by_cases h : 1 ≤ k
      · rw [if_pos h]
        by_cases h2 : k ≤ n + 1
        · rw [if_pos ⟨h, h2⟩]
        · rw [if_neg (by omega), hz (k - 1) (by omega)]; simp
      · rw [if_neg h, if_neg (by omega)]
theorem hitsF_bd (x : Nat → Nat → Int) (z : Int) {n : Nat} (hn : n ≤ 4) (k : Nat) : 0 ≤ hitsF x z n k ∧ hitsF x z n k ≤ 1296 := by
  rw [← hits_eq]
  have h1 := cntF_bd (hitI n x z) (sixN n) k
  have h2 := sixN_small hn
  omega
theorem hits_fun (n : Nat) (x : Nat → Nat → Int) (z : Int) : cntF (hitI n x z) (sixN n) = hitsF x z n := funext (hits_eq x z n)
end Go.Proofs.Ytbfhfadfjgfmaaa
