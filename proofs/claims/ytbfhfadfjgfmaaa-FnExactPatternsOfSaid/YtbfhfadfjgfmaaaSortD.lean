/- The reference's bubble sort of six numbers and the insertion sort answer alike. In plain Lean. -/
import Derived.Test.YtbfhfadfjgfmaaaHits
import Derived.Test.YtbfhfadfjgfmaaaSort5
set_option linter.unusedVariables false
set_option linter.unusedSimpArgs false
set_option linter.unusedSectionVars false
namespace Go.Proofs.Ytbfhfadfjgfmaaa
open Go.RowKit
theorem I_swap (f : Nat → Int) (k : Nat) (a b : Int) : upd (upd (I f) k (.int .i64 a)) (k + 1) (.int .i64 b) = I (upd (upd f k a) (k + 1) b) := by rw [I_upd, I_upd]
def swapF (f : Nat → Int) (k : Nat) : Nat → Int := if f (k + 1) < f k then upd (upd f k (f (k + 1))) (k + 1) (f k) else f
def passF (f : Nat → Int) : Nat → Nat → Int
  | 0 => f
  | k + 1 => swapF (passF f k) k
def bubF (d : Nat → Int) : Nat → Nat → Int
  | 0 => d
  | i + 1 => passF (bubF d i) 5
theorem swap_at (f : Nat → Int) (k : Nat) : swapF f k k ≤ swapF f k (k + 1) ∧ f k ≤ swapF f k (k + 1) ∧ f (k + 1) ≤ swapF f k (k + 1) := by
  unfold swapF
  split
  · rename_i h
    simp [upd]
    omega
  · omega
theorem swap_far (f : Nat → Int) {k p : Nat} (h1 : p ≠ k) (h2 : p ≠ k + 1) : swapF f k p = f p := by
  unfold swapF
  split
  · simp only [upd]; rw [if_neg h2, if_neg h1]
  · rfl
theorem swap_from (f : Nat → Int) (k p : Nat) : swapF f k p = f p ∨ (p = k ∧ swapF f k p = f (k + 1)) ∨ (p = k + 1 ∧ swapF f k p = f k) := by
  unfold swapF
  split
  · simp only [upd]
    by_cases h1 : p = k + 1
    · exact .inr (.inr ⟨h1, if_pos h1⟩)
    · rw [if_neg h1]
      by_cases h2 : p = k
      · exact .inr (.inl ⟨h2, if_pos h2⟩)
      · exact .inl (if_neg h2)
  · exact .inl rfl
/-- The top places from t on are done. -/
def TopDone (f : Nat → Int) (t : Nat) : Prop := ∀ q p, q < p → p < 6 → t ≤ p → f q ≤ f p
theorem swap_done {f : Nat → Int} {t k : Nat} (h : TopDone f t) (hk : k < 5) : TopDone (swapF f k) t := by
  by_cases hh : f (k + 1) < f k
  · have hkt : k + 1 < t := by
      by_cases c : k + 1 < t
      · exact c
      · have := h k (k + 1) (by omega) (by omega) (by omega); omega
    intro q p hq hp ht
    rw [swap_far f (p := p) (by omega) (by omega)]
    rcases swap_from f k q with e | ⟨e1, e⟩ | ⟨e1, e⟩
    · rw [e]; exact h q p hq hp ht
    · rw [e]; exact h (k + 1) p (by omega) hp ht
    · rw [e]; exact h k p (by omega) hp ht
  · have e : swapF f k = f := by unfold swapF; rw [if_neg hh]
    rw [e]; exact h
theorem pass_done {f : Nat → Int} {t : Nat} (h : TopDone f t) : ∀ k, k ≤ 5 → TopDone (passF f k) t
  | 0, _ => h
  | k + 1, hk => swap_done (pass_done h k (by omega)) (by omega)
theorem pass_max (f : Nat → Int) : ∀ k, ∀ q, q < k → passF f k q ≤ passF f k k
  | 0, _, h => by omega
  | k + 1, q, h => by
    have ih := pass_max f k
    simp only [passF]
    obtain ⟨h1, h2, h3⟩ := swap_at (passF f k) k
    by_cases e : q = k
    · rw [e]; exact h1
    · rw [swap_far _ e (by omega)]
      exact Int.le_trans (ih q (by omega)) h2
theorem pass_keep {f : Nat → Int} {t : Nat} (h : TopDone f t) (h1 : 1 ≤ t) : ∀ k, t - 1 ≤ k → k ≤ 5 → passF f k = passF f (t - 1)
  | 0, h2, _ => by rw [show t - 1 = 0 by omega]
  | k + 1, h2, h5 => by
    by_cases e : t - 1 = k + 1
    · rw [e]
    · rw [← pass_keep h h1 k (by omega) (by omega)]
      have hd := pass_done h k (by omega)
      have := hd k (k + 1) (by omega) (by omega) (by omega)
      simp only [passF]
      unfold swapF
      rw [if_neg (by omega)]
theorem bub_done (d : Nat → Int) : ∀ i, i ≤ 5 → TopDone (bubF d i) (6 - i)
  | 0, _ => fun q p _ hp ht => by omega
  | i + 1, hi => by
    have ih := bub_done d i (by omega)
    intro q p hq hp ht
    simp only [bubF]
    by_cases e : 6 - i ≤ p
    · exact pass_done ih 5 (by omega) q p hq hp e
    · have hp2 : p = 6 - i - 1 := by omega
      rw [pass_keep ih (by omega) 5 (by omega) (by omega)]
      have := pass_max (bubF d i) (6 - i - 1) q (by omega)
      rw [hp2]
      exact this
theorem bub_up (d : Nat → Int) : ∀ q p, q < p → p < 6 → bubF d 6 q ≤ bubF d 6 p := by
  have h : TopDone (bubF d 6) 1 := pass_done (bub_done d 5 (by omega)) 5 (by omega)
  exact fun q p hq hp => h q p hq hp (by omega)
def ind (z v : Int) : Nat := if z ≤ v then 1 else 0
theorem hc_succ (r : Nat → Int) (z : Int) (k : Nat) : hc r z (k + 1) = hc r z k + ind z (r k) := rfl
theorem hc_swap (f : Nat → Int) (z : Int) (k : Nat) : ∀ n, hc (ngF (swapF f k)) z n = if n = k + 1 then hc (ngF f) z k + ind z (- swapF f k k) else hc (ngF f) z n
  | 0 => by simp [hc]
  | n + 1 => by
    have ih := hc_swap f z k n
    rw [hc_succ, ih]
    by_cases h1 : n = k
    · subst h1
      rw [if_neg (by omega), if_pos rfl]
      rfl
    · rw [if_neg (show ¬ n + 1 = k + 1 by omega)]
      by_cases h2 : n = k + 1
      · subst h2
        have key : ind z (- swapF f k k) + ind z (ngF (swapF f k) (k + 1)) = ind z (ngF f k) + ind z (ngF f (k + 1)) := by
          unfold swapF
          split
          · simp [upd, ngF]; omega
          · rfl
        rw [if_pos rfl, hc_succ, hc_succ]
        omega
      · have e : ngF (swapF f k) n = ngF f n := by unfold ngF; rw [swap_far f h1 h2]
        rw [if_neg h2, e, hc_succ]
theorem hc_pass (f : Nat → Int) (z : Int) : ∀ k, k ≤ 5 → hc (ngF (passF f k)) z 6 = hc (ngF f) z 6
  | 0, _ => rfl
  | k + 1, h => by
    simp only [passF]
    rw [hc_swap, if_neg (by omega), hc_pass f z k (by omega)]
theorem hc_bub (d : Nat → Int) (z : Int) : ∀ i, hc (ngF (bubF d i)) z 6 = hc (ngF d) z 6
  | 0 => rfl
  | i + 1 => by simp only [bubF]; rw [hc_pass _ z 5 (by omega), hc_bub d z i]
theorem hc_mono (F : Nat → Int) (z : Int) {m : Nat} : ∀ n, m ≤ n → hc F z m ≤ hc F z n
  | 0, h => by rw [show m = 0 by omega]; exact Nat.le_refl _
  | n + 1, h => by
    by_cases e : m = n + 1
    · rw [e]; exact Nat.le_refl _
    · have := hc_mono F z n (show m ≤ n by omega)
      simp only [hc]
      omega
theorem hc_all {F : Nat → Int} {z : Int} : ∀ n, (∀ q, q < n → z ≤ F q) → hc F z n = n
  | 0, _ => rfl
  | n + 1, h => by simp only [hc]; rw [hc_all n (fun q hq => h q (by omega)), if_pos (h n (by omega))]
theorem hc_none {F : Nat → Int} {z : Int} {p : Nat} : ∀ n, (∀ q, p ≤ q → q < n → F q < z) → hc F z n ≤ p
  | 0, _ => Nat.zero_le _
  | n + 1, h => by
    by_cases e : n < p
    · have := hc_le F z (n + 1); omega
    · simp only [hc]
      have := hc_none (F := F) (z := z) (p := p) n (fun q h1 h2 => h q h1 (by omega))
      rw [if_neg (by have := h n (by omega) (by omega); omega)]
      omega
def Desc (F : Nat → Int) (n : Nat) : Prop := ∀ q p, q < p → p < n → F p ≤ F q
theorem desc_hc {F : Nat → Int} {n p : Nat} (h : Desc F n) (hp : p < n) (z : Int) : z ≤ F p ↔ p + 1 ≤ hc F z n := by
  constructor
  · intro hz
    have h1 := hc_all (F := F) (z := z) (p + 1) (fun q hq => by
      by_cases e : q = p
      · rw [e]; exact hz
      · exact Int.le_trans hz (h q p (by omega) hp))
    have h2 := hc_mono F z n (show p + 1 ≤ n by omega)
    omega
  · intro hq
    by_cases hz : z ≤ F p
    · exact hz
    · have := hc_none (F := F) (z := z) (p := p) n (fun q h1 h2 => by
        by_cases e : q = p
        · rw [e]; omega
        · have := h p q (by omega) h2; omega)
      omega
theorem desc_eq {F G : Nat → Int} {n : Nat} (hF : Desc F n) (hG : Desc G n) (h : ∀ z, hc F z n = hc G z n) (p : Nat) (hp : p < n) : F p = G p := by
  have h1 := (desc_hc hG hp (F p)).2 (by rw [← h]; exact (desc_hc hF hp (F p)).1 (Int.le_refl _))
  have h2 := (desc_hc hF hp (G p)).2 (by rw [h]; exact (desc_hc hG hp (G p)).1 (Int.le_refl _))
  omega
theorem posF_lt (f : Nat → Int) (v : Int) : ∀ j q, posF f v j ≤ q → q < j → f q < v
  | 0, _, _, h => by omega
  | j + 1, q, h1, h2 => by
    simp only [posF] at h1
    split at h1
    · rename_i h
      by_cases e : q = j
      · rw [e]; exact h
      · exact posF_lt f v j q h1 (by omega)
    · omega
theorem posF_ge (f : Nat → Int) (v : Int) : ∀ j, 0 < posF f v j → v ≤ f (posF f v j - 1)
  | 0, h => by simp [posF] at h
  | j + 1, h => by
    simp only [posF] at h ⊢
    split
    · rename_i c
      rw [if_pos c] at h
      exact posF_ge f v j h
    · simp only [Nat.add_sub_cancel]; omega
theorem plF_desc (r : Nat → Int) : ∀ n, Desc (plF r n) n
  | 0 => fun q p _ hp => by omega
  | n + 1 => by
    have ih := plF_desc r n
    have hle := posF_le (plF r n) (r n) n
    have hlt := posF_lt (plF r n) (r n) n
    have hge := posF_ge (plF r n) (r n) n
    simp only [plF]
    obtain ⟨s, hs⟩ : ∃ s, s = posF (plF r n) (r n) n := ⟨_, rfl⟩
    rw [← hs] at hle hlt hge ⊢
    have before : ∀ q, q < s → r n ≤ plF r n q := fun q hq => by
      have h1 := hge (by omega)
      by_cases e : q = s - 1
      · rw [e]; exact h1
      · exact Int.le_trans h1 (ih q (s - 1) (by omega) (by omega))
    intro q p hq hp
    unfold insAt
    by_cases c1 : p < s
    · rw [if_pos c1, if_pos (by omega)]
      exact ih q p hq (by omega)
    · rw [if_neg c1]
      by_cases c2 : p = s
      · rw [if_pos c2, if_pos (by omega)]
        exact before q (by omega)
      · rw [if_neg c2, if_pos (by omega)]
        by_cases c3 : q < s
        · rw [if_pos c3]
          exact ih q (p - 1) (by omega) (by omega)
        · rw [if_neg c3]
          by_cases c4 : q = s
          · rw [if_pos c4]
            have := hlt (p - 1) (by omega) (by omega)
            omega
          · rw [if_neg c4, if_pos (by omega)]
            exact ih (q - 1) (p - 1) (by omega) (by omega)
theorem bub_as (d : Nat → Int) (p : Nat) (hp : p < 6) : bubF d 6 p = asF d 6 p := by
  have h := desc_eq (F := ngF (bubF d 6)) (G := plF (ngF d) 6) (n := 6) (fun q p hq hp => by have := bub_up d q p hq hp; simp only [ngF]; omega) (plF_desc (ngF d) 6) (fun z => by rw [hc_bub, hc_plF]) p hp
  have h2 : - bubF d 6 p = plF (ngF d) 6 p := h
  show bubF d 6 p = - plF (ngF d) 6 p
  omega
theorem hc_full {F : Nat → Int} {z : Int} : ∀ n, hc F z n = n → ∀ q, q < n → z ≤ F q
  | 0, _, q, hq => by omega
  | n + 1, h, q, hq => by
    have hl := hc_le F z n
    simp only [hc] at h
    split at h
    · rename_i c
      by_cases e : q = n
      · rw [e]; exact c
      · exact hc_full n (by omega) q (by omega)
    · omega
theorem hc_zero {F : Nat → Int} {z : Int} : ∀ n, hc F z n = 0 → ∀ q, q < n → F q < z
  | 0, _, q, hq => by omega
  | n + 1, h, q, hq => by
    simp only [hc] at h
    split at h
    · omega
    · rename_i c
      by_cases e : q = n
      · rw [e]; omega
      · exact hc_zero n (by omega) q (by omega)
theorem faces_hc (d : Nat → Int) : allB (fun i => faceB (d i)) 6 = (decide (hc (ngF d) (-30) 6 = 6) && decide (hc (ngF d) 1 6 = 0)) := by
  rw [Bool.eq_iff_iff, allB_iff]
  simp only [faceB, Bool.and_eq_true, decide_eq_true_eq]
  constructor
  · intro h
    exact ⟨hc_all 6 (fun q hq => by have := h q hq; simp only [ngF]; omega), Nat.le_zero.1 (hc_none (p := 0) 6 (fun q _ hq => by have := h q hq; simp only [ngF]; omega))⟩
  · rintro ⟨h1, h2⟩ i hi
    have a := hc_full 6 h1 i hi
    have b := hc_zero 6 h2 i hi
    simp only [ngF] at a b
    omega
theorem sorted_die (d : Nat → Int) : dieB (bubF d 6) = allB (fun i => faceB (d i)) 6 := by
  rw [die_iff, faces_hc, faces_hc, hc_bub, hc_bub]
  have h : allB (fun i => !decide (bubF d 6 (i + 1) < bubF d 6 i)) 5 = true := by
    rw [allB_iff]
    intro i hi
    have := bub_up d i (i + 1) (by omega) (by omega)
    simp only [Bool.not_eq_true', decide_eq_false_iff_not]
    omega
  rw [h, Bool.and_true]
end Go.Proofs.Ytbfhfadfjgfmaaa
